/- A book of lists: copies; one more list; lists that are lent. -/
import Derived.Test.YtfkhdfnjlegnhaaBookG
set_option maxRecDepth 100000
set_option linter.unusedVariables false
set_option linter.unusedSimpArgs false
namespace Go.Proofs.Ytfkhdfnjlegnhaa.Bk
open Go Go.Eng F

theorem rds_els {k : H} {es : Nat} {v : AV} {L : List (List AV)} (hx : RdS k es v L) : elsOf k es v = some L := by
  rcases hx with ⟨rfl, rfl⟩ | ⟨b, c, y, rfl, rfl⟩ | ⟨b, c, y, els, wr, ap, rfl, h2, h3, h4⟩
  · rfl
  · simp [elsOf]
  · by_cases h0 : L.length = 0
    · have : L = [] := List.length_eq_zero_iff.1 h0
      subst this; simp [elsOf]
    · simp [elsOf, h0, h2, h4, h3]
/-- An append of a list to nothing. -/
theorem nil_append {k : H} {es : Nat} {v : AV} {L : List (List AV)} (hx : RdS k es v L) (hs : ∀ e ∈ L, ∀ a ∈ e, a.scalar = true) (hlen : L.length ≤ 4294967296) :
    ∃ c k', appendV es false .nilslice v k = some (c, k') ∧ OwnE k' es c L ∧ Chg k k' [] ∧ (∀ x ∈ foot c, k.length ≤ x) := by
  have hel := rds_els hx
  have hsc : (L.all fun e => e.all AV.scalar) = true := by simpa using hs
  by_cases h0 : L.length = 0
  · have : L = [] := List.length_eq_zero_iff.1 h0
    subst this
    exact ⟨.nilslice, k, by simp [appendV, evalHeap, hel, appendEls], .inl ⟨rfl, rfl⟩, Chg.refl _ _, by simp [foot]⟩
  · refine ⟨.slice k.length es 0 L.length L.length false, k ++ [.row es L true true], ?_, .inr ⟨k.length, L.length, false, rfl, by simp, Nat.le_refl _⟩, Chg.app _ _ _, by simp [foot]⟩
    simp only [appendV, evalHeap, hel, hsc, if_true, appendEls, h0, if_false, hlen, true_or]
theorem pts_scalar {L : List (List AV)} (h : IsPts L) : ∀ e ∈ L, ∀ a ∈ e, a.scalar = true := by
  intro e he a ha
  obtain ⟨x, rfl⟩ := h e he
  simp at ha; subst ha; rfl
theorem copy_call {k : H} {v : AV} {L : List (List AV)} (hx : RdS k 1 v L) (hL : IsPts L) (hlen : L.length ≤ 4294967296) :
    Yld (call Fg.fs0 Fg.ex0 21 [v] k) fun r => ∃ c k', r = (c, k') ∧ OwnE k' 1 c L ∧ Chg k k' [] ∧ (∀ x ∈ foot c, k.length ≤ x) := by
  obtain ⟨c, k', e, o, ch, f⟩ := nil_append hx (pts_scalar hL) hlen
  rw [call_eq Fg.fs0 Fg.ex0 (f := 21) (sf := sf21) rfl]
  simp [sf21, yld_some, exec_reg, exec_dreg, exec_seq, exec_cond, exec_block, exec_scope, exec_exit, exec_ret, exec_skip, exec_loop, ops_nil, ops_cons, ops_cons_gd, stages_nil, stages_cons_n, stages_cons_h, recheck, wantsOp, AV.same, sames, evalOp_p, evalOp_r, evalOp_a, evalOp_call, evalOp_callV, evalOp_store, evalOp_append, evalOp_clear, evalOp_mapUpdate, evalOp_delete, pP_move, pP_pick, pP_build, pP_nil_ptr, pP_nil_func, pP_bin, pP_eq, pP_neg, pP_inv, pP_not, pP_convInt, pP_convStr, pP_fieldAddr, pP_field, pP_indexAddr, pP_indexStr, pP_sliceStr, pP_sliceSl, pP_lenStr, pP_lenNil, pP_lenSl, pP_min, pP_max, pP_extract, pP_mkfn, bV_add, bV_sub, bV_mul, bV_quo, bV_rem, bV_and, bV_or, bV_xor, bV_andNot, bV_eql, bV_neq, bV_lss, bV_leq, bV_gtr, bV_geq, bV_shl, bV_shr, bV_str, eV_bool, eV_nn, eV_np, eV_pn, eV_snn, eV_sns, eV_ssn, eV_mnn, eV_mnm, eV_mmn, eV_fnn, eV_fnf, eV_ffn, eV_agg, rP_load, rP_lenNil, rP_str0, rdEl_K, rdK_row, aP_alloc, aP_box, aP_buildSlice, aP_makeSlice, aP_makeMap, aP_toBytes, hP_store, storeK_some, st_K, stK_row, stE_some, cells_agg, cells_bool, scalar_bool, cells_int, scalar_int, cells_str, scalar_str, cells_nilptr, scalar_nilptr, cells_ptr, scalar_ptr, cells_nilslice, scalar_nilslice, cells_slice, scalar_slice, cells_nilmap, scalar_nilmap, cells_map, scalar_map, cells_nilfunc, scalar_nilfunc, cells_func, scalar_func, eqCells, eqLeaf, run_toL, toL_some, ev_toL, getD_toL, put_toL, keep_toL, asc, fput_same, fput_ne, fbase_nil, fbase_cons, fkeep_nil, fkeep_cons, fzero, fnone, List.map_cons, List.map_nil, ev_lit, put_none, resVals, resVal, resOf, partV, fillA, putCells, fillEls, strBin, minV, optNat, appendEls, elsOf, sliceSlV, sliceStrV, List.replicate, List.getElem?_append_left, List.getElem?_append_right, List.set_append_left, List.set_append_right, List.getElem?_set_self, List.getElem?_set_ne, hq_get0, hq_get, hq_get2, hq_get3, hp_get0, hp_get, hp_get2, hp_get3, hp_set0, hp_set, hp_set2, hp_set3, wr_0, wr_1, wr_2, wr_3, wr_4, wr_n1, e]
  exact ⟨c, k', ⟨rfl, rfl⟩, o, ch, f⟩
/-- A list that is lent: a mark stands behind it. -/
def Lent (k : H) (m : AV) (L : List (List AV)) : Prop := ∃ b c x, m = .slice b 1 0 L.length c x ∧ k[b]? = some (.row 1 (L ++ [[.int .u64 77]]) true true) ∧ L.length + 1 ≤ c
theorem Lent.rds {k : H} {m : AV} {L : List (List AV)} (h : Lent k m L) : RdS k 1 m L := by
  obtain ⟨b, c, x, rfl, h1, h2⟩ := h
  exact .inr <| .inr ⟨b, c, x, _, true, true, rfl, h1, by simp, by simp⟩
theorem Lent.keep {k k' : H} {m : AV} {L : List (List AV)} {F : List Nat} (h : Lent k m L) (hc : Chg k k' F) (hd : ∀ c ∈ foot m, c ∉ F) : Lent k' m L := by
  obtain ⟨b, c, x, rfl, h1, h2⟩ := h
  exact ⟨b, c, x, rfl, hc.2 b _ (hd b (by simp [foot])) h1, h2⟩
theorem lent_call {k : H} {v : AV} {L : List (List AV)} (hx : RdS k 1 v L) (hL : IsPts L) (hlen : L.length ≤ 100000) :
    Yld (call Fg.fs0 Fg.ex0 10 [v] k) fun r => ∃ c k', r = (c, k') ∧ Lent k' c L ∧ Chg k k' [] ∧ (∀ x ∈ foot c, k.length ≤ x) := by
  obtain ⟨⟨c, k1⟩, e22, _, _, hr, o, c1, f1⟩ := copy_call hx hL (by omega)
  cases hr
  obtain ⟨v2, k2, e9, o2, c2, f2⟩ := ownE_append (o.keep (Chg.app k1 [.row 1 [[.int .u64 77]] true true] []) (by simp)) (x := .slice k1.length 1 0 1 1 true) (X := [[.int .u64 77]]) (.inr <| .inr ⟨k1.length, 1, true, [[.int .u64 77]], true, true, rfl, by simp, rfl, by simp⟩) (by simp) (by simp [AV.scalar]) (by simp; omega)
  rw [call_eq Fg.fs0 Fg.ex0 (f := 10) (sf := sf10) rfl]
  have lx := hx.len
  rcases o2 with ⟨_, h0⟩ | ⟨b, c', xx, rfl, hb, hc⟩
  · simp at h0
  · simp only [List.length_append, List.length_cons, List.length_nil, Nat.zero_add] at hc e9 f2
    have h1 : L.length ≤ c' := by omega
    have h2 : L.length ≤ L.length + 1 := by omega
    have kl := c1.1
    have chg : Chg k k2 [] := (c1.trans (Chg.app k1 _ []) (by simp)).trans c2 (fun x hx => .inr (f1 x hx))
    have fr : k.length ≤ b := by have := f2 b (by simp [foot]); omega
    simp [sf10, yld_some, exec_reg, exec_dreg, exec_seq, exec_cond, exec_block, exec_scope, exec_exit, exec_ret, exec_skip, exec_loop, ops_nil, ops_cons, ops_cons_gd, stages_nil, stages_cons_n, stages_cons_h, recheck, wantsOp, AV.same, sames, evalOp_p, evalOp_r, evalOp_a, evalOp_call, evalOp_callV, evalOp_store, evalOp_append, evalOp_clear, evalOp_mapUpdate, evalOp_delete, pP_move, pP_pick, pP_build, pP_nil_ptr, pP_nil_func, pP_bin, pP_eq, pP_neg, pP_inv, pP_not, pP_convInt, pP_convStr, pP_fieldAddr, pP_field, pP_indexAddr, pP_indexStr, pP_sliceStr, pP_sliceSl, pP_lenStr, pP_lenNil, pP_lenSl, pP_min, pP_max, pP_extract, pP_mkfn, bV_add, bV_sub, bV_mul, bV_quo, bV_rem, bV_and, bV_or, bV_xor, bV_andNot, bV_eql, bV_neq, bV_lss, bV_leq, bV_gtr, bV_geq, bV_shl, bV_shr, bV_str, eV_bool, eV_nn, eV_np, eV_pn, eV_snn, eV_sns, eV_ssn, eV_mnn, eV_mnm, eV_mmn, eV_fnn, eV_fnf, eV_ffn, eV_agg, rP_load, rP_lenNil, rP_str0, rdEl_K, rdK_row, aP_alloc, aP_box, aP_buildSlice, aP_makeSlice, aP_makeMap, aP_toBytes, hP_store, storeK_some, st_K, stK_row, stE_some, cells_agg, cells_bool, scalar_bool, cells_int, scalar_int, cells_str, scalar_str, cells_nilptr, scalar_nilptr, cells_ptr, scalar_ptr, cells_nilslice, scalar_nilslice, cells_slice, scalar_slice, cells_nilmap, scalar_nilmap, cells_map, scalar_map, cells_nilfunc, scalar_nilfunc, cells_func, scalar_func, eqCells, eqLeaf, run_toL, toL_some, ev_toL, getD_toL, put_toL, keep_toL, asc, fput_same, fput_ne, fbase_nil, fbase_cons, fkeep_nil, fkeep_cons, fzero, fnone, List.map_cons, List.map_nil, ev_lit, put_none, resVals, resVal, resOf, partV, fillA, putCells, fillEls, strBin, minV, optNat, appendEls, elsOf, sliceSlV, sliceStrV, List.replicate, List.getElem?_append_left, List.getElem?_append_right, List.set_append_left, List.set_append_right, List.getElem?_set_self, List.getElem?_set_ne, hq_get0, hq_get, hq_get2, hq_get3, hp_get0, hp_get, hp_get2, hp_get3, hp_set0, hp_set, hp_set2, hp_set3, wr_0, wr_1, wr_2, wr_3, wr_4, wr_n1, e22, e9, lx, h1, h2]
    exact ⟨_, _, ⟨rfl, rfl⟩, ⟨b, c', xx, rfl, hb, by omega⟩, chg, by simp [foot]; exact fr⟩
theorem stays_call {k : H} {m w : AV} {L : List (List AV)} (hm : Lent k m L) (hw : RdS k 1 w L) (hL : IsPts L) (hlen : L.length ≤ 100000) : Yld (call Fg.fs0 Fg.ex0 19 [m, w] k) fun r => r = (.bool true, k) := by
  obtain ⟨⟨_, _⟩, e18, hr⟩ := same_call hm.rds hw hL (by omega)
  cases hr
  rw [call_eq Fg.fs0 Fg.ex0 (f := 19) (sf := sf19) rfl]
  obtain ⟨b, c, xx, rfl, hb, hc⟩ := hm
  have hw1 : IntKind.i64.wrap ((L.length : Int) + 1) = ((L.length + 1 : Nat) : Int) := wrap_i64 (by omega) (by omega)
  have h3 : (0 : Int) ≤ (L.length : Int) + 1 := by omega
  have h4 : (L.length : Int) < (L.length : Int) + 1 := by omega
  have h0 : (L ++ [[AV.int .u64 77]])[L.length]? = some [AV.int .u64 77] := by simp
  have h1 : L.length < (L ++ [[AV.int .u64 77]]).length := by simp
  have h2 : (L ++ [[AV.int .u64 77]])[L.length] = [AV.int .u64 77] := by simp
  generalize L ++ [[AV.int .u64 77]] = E at *
  simp [sf19, yld_some, exec_reg, exec_dreg, exec_seq, exec_cond, exec_block, exec_scope, exec_exit, exec_ret, exec_skip, exec_loop, ops_nil, ops_cons, ops_cons_gd, stages_nil, stages_cons_n, stages_cons_h, recheck, wantsOp, AV.same, sames, evalOp_p, evalOp_r, evalOp_a, evalOp_call, evalOp_callV, evalOp_store, evalOp_append, evalOp_clear, evalOp_mapUpdate, evalOp_delete, pP_move, pP_pick, pP_build, pP_nil_ptr, pP_nil_func, pP_bin, pP_eq, pP_neg, pP_inv, pP_not, pP_convInt, pP_convStr, pP_fieldAddr, pP_field, pP_indexAddr, pP_indexStr, pP_sliceStr, pP_sliceSl, pP_lenStr, pP_lenNil, pP_lenSl, pP_min, pP_max, pP_extract, pP_mkfn, bV_add, bV_sub, bV_mul, bV_quo, bV_rem, bV_and, bV_or, bV_xor, bV_andNot, bV_eql, bV_neq, bV_lss, bV_leq, bV_gtr, bV_geq, bV_shl, bV_shr, bV_str, eV_bool, eV_nn, eV_np, eV_pn, eV_snn, eV_sns, eV_ssn, eV_mnn, eV_mnm, eV_mmn, eV_fnn, eV_fnf, eV_ffn, eV_agg, rP_load, rP_lenNil, rP_str0, rdEl_K, rdK_row, aP_alloc, aP_box, aP_buildSlice, aP_makeSlice, aP_makeMap, aP_toBytes, hP_store, storeK_some, st_K, stK_row, stE_some, cells_agg, cells_bool, scalar_bool, cells_int, scalar_int, cells_str, scalar_str, cells_nilptr, scalar_nilptr, cells_ptr, scalar_ptr, cells_nilslice, scalar_nilslice, cells_slice, scalar_slice, cells_nilmap, scalar_nilmap, cells_map, scalar_map, cells_nilfunc, scalar_nilfunc, cells_func, scalar_func, eqCells, eqLeaf, run_toL, toL_some, ev_toL, getD_toL, put_toL, keep_toL, asc, fput_same, fput_ne, fbase_nil, fbase_cons, fkeep_nil, fkeep_cons, fzero, fnone, List.map_cons, List.map_nil, ev_lit, put_none, resVals, resVal, resOf, partV, fillA, putCells, fillEls, strBin, minV, optNat, appendEls, elsOf, sliceSlV, sliceStrV, List.replicate, List.getElem?_append_left, List.getElem?_append_right, List.set_append_left, List.set_append_right, List.getElem?_set_self, List.getElem?_set_ne, hq_get0, hq_get, hq_get2, hq_get3, hp_get0, hp_get, hp_get2, hp_get3, hp_set0, hp_set, hp_set2, hp_set3, wr_0, wr_1, wr_2, wr_3, wr_4, wr_n1, e18, hw1, hc, h3, h4, hb, get_app hb, set_app hb, get_set_same hb, get_set_app hb, set_set_app hb, len_beq hb, beq_len hb, h0, h1, h2]
/-- A book, and what is kept in it. -/
structure BkAt (k : H) (g : Nat) (pv wv : AV) (vs ws : List AV) (Ls : Nat → List (List AV)) : Prop where
  row : k[g]? = some (bookB pv wv)
  po : OwnE k 1 pv (vs.map fun u => [u])
  wo : OwnE k 1 wv (ws.map fun u => [u])
  len : ws.length = vs.length
  vo : ∀ i (h : i < vs.length), OwnE k 1 vs[i] (Ls i)
  uo : ∀ i (h : i < ws.length), OwnE k 1 ws[i] (Ls i)
  ap : Apt g pv vs
  gp : g ∉ foot pv
  gw : g ∉ foot wv
  pw : ∀ c ∈ foot pv, c ∉ foot wv
  vw : ∀ i (h : i < vs.length), ∀ c ∈ foot vs[i], c ∉ foot wv
  ug : ∀ i (h : i < ws.length), g ∉ foot ws[i]
  up : ∀ i (h : i < ws.length), ∀ c ∈ foot ws[i], c ∉ foot pv
  uw : ∀ i (h : i < ws.length), ∀ c ∈ foot ws[i], c ∉ foot wv
theorem BkAt.apart {k : H} {g : Nat} {pv wv : AV} {vs ws : List AV} {Ls : Nat → List (List AV)} (b : BkAt k g pv wv vs ws Ls) (hlen : vs.length ≤ 250) (hi : ∀ i, IsPts (Ls i) ∧ (Ls i).length ≤ 50000) :
    Yld (call Fg.fs0 Fg.ex0 20 [.ptr g 0 0] k) fun r => r.1 = .bool true :=
  apart_call b.row b.po.grow.rds b.wo.grow.rds hlen b.len b.vo (fun i h => (b.uo i h).grow.rds) hi b.ap
/-- What a book holds on to. -/
def BkAt.mine (g : Nat) (pv wv : AV) (vs ws : List AV) : List Nat := g :: (foot pv ++ foot wv ++ feet vs ++ feet ws)
theorem BkAt.keep {k k' : H} {g : Nat} {pv wv : AV} {vs ws : List AV} {Ls : Nat → List (List AV)} {F : List Nat} (b : BkAt k g pv wv vs ws Ls) (hc : Chg k k' F) (hd : ∀ c ∈ BkAt.mine g pv wv vs ws, c ∉ F) : BkAt k' g pv wv vs ws Ls :=
  ⟨hc.2 g _ (hd g (by simp [BkAt.mine])) b.row, b.po.keep hc (fun c h => hd c (by simp [BkAt.mine, h])), b.wo.keep hc (fun c h => hd c (by simp [BkAt.mine, h])), b.len,
    fun i h => (b.vo i h).keep hc (fun c hc => hd c (by have := mem_feet h hc; simp [BkAt.mine, this])), fun i h => (b.uo i h).keep hc (fun c hc => hd c (by have := mem_feet h hc; simp [BkAt.mine, this])),
    b.ap, b.gp, b.gw, b.pw, b.vw, b.ug, b.up, b.uw⟩
set_option maxHeartbeats 4000000 in
/-- One more list. -/
theorem points_call {k : H} {g : Nat} {pv wv v : AV} {vs ws : List AV} {Ls : Nat → List (List AV)} {L : List (List AV)} (b : BkAt k g pv wv vs ws Ls) (hlen : vs.length < 250) (ho : OwnE k 1 v L) (hL : IsPts L) (hl : L.length ≤ 50000)
    (hv : ∀ c ∈ foot v, c ∉ BkAt.mine g pv wv vs ws) (h0 : Ls vs.length = L) :
    Yld (call Fg.fs0 Fg.ex0 13 [.ptr g 0 0, v] k) fun r => ∃ pv' wv' w k', r = (.tuple [], k') ∧ BkAt k' g pv' wv' (vs ++ [v]) (ws ++ [w]) Ls ∧ Chg k k' (g :: (foot pv ++ foot wv)) ∧ (∀ c ∈ foot pv', k.length ≤ c) ∧ (∀ c ∈ foot wv', k.length ≤ c) ∧ (∀ c ∈ foot w, k.length ≤ c) := by
  refine yld_shut fun Q hQ => ?_
  rw [call_eq Fg.fs0 Fg.ex0 (f := 13) (sf := sf13) rfl]
  have hg := b.row
  unfold bookB at hg
  have hgl := (List.getElem?_eq_some_iff.1 hg).1
  have lp := b.po.grow.rds.len
  simp only [List.length_map] at lp
  have hd : decide ((vs.length : Int) < 250) = true := dec_true (by omega)
  have sv := ho.grow.rds.cells
  -- the list goes in
  obtain ⟨p2, k2, e9, o2, c2, f2⟩ := ownE_append (b.po.keep (Chg.app k [.row 1 [[v]] true true] []) (by simp)) (x := .slice k.length 1 0 1 1 true) (X := [[v]]) (.inr <| .inr ⟨k.length, 1, true, [[v]], true, true, rfl, by simp, rfl, by simp⟩) (by simp) (by simpa using sv.2.1) (by simp; omega)
  have cA : Chg k k2 (foot pv) := ((Chg.app k _ []).mono (by simp)).trans c2 (fun c hc => .inl hc)
  have hg2 := cA.2 g _ b.gp hg
  have kl2 := cA.1
  have s2 := o2.grow.rds.cells
  have cB : Chg k2 (k2.set g (.row 14 [[.nilslice, .nilslice, .nilslice, .nilslice, p2, wv, .nilslice, .nilslice, .nilslice, .nilslice, .nilslice, .nilslice, .nilslice, .nilslice]] true true)) [g] := (Chg.refl _ _).set (.inl (by simp))
  have cAB : Chg k _ (g :: foot pv) := (cA.mono (by simp_all)).trans cB (fun c hc => by simp at hc; simp [hc])
  have hg3 : (k2.set g (.row 14 [[.nilslice, .nilslice, .nilslice, .nilslice, p2, wv, .nilslice, .nilslice, .nilslice, .nilslice, .nilslice, .nilslice, .nilslice, .nilslice]] true true))[g]? = _ := get_set_same hg2
  have hgv : g ∉ foot v := fun h => hv g h (by simp [BkAt.mine])
  have hvp : ∀ c ∈ foot v, c ∉ g :: foot pv := fun c hc hm => hv c hc (by simp only [BkAt.mine, List.mem_cons, List.mem_append] at hm ⊢; rcases hm with h | h <;> simp [h])
  have ho3 := ho.keep cAB hvp
  generalize hk3 : k2.set g (.row 14 [[.nilslice, .nilslice, .nilslice, .nilslice, p2, wv, .nilslice, .nilslice, .nilslice, .nilslice, .nilslice, .nilslice, .nilslice, .nilslice]] true true) = k3 at *
  have kl3 := cAB.1
  -- and a copy
  obtain ⟨⟨w, k4⟩, e22, _, _, hr, ow, c4, f4⟩ := copy_call ho3.grow.rds hL (by omega)
  cases hr
  have hg4 := c4.2 g _ (by simp) hg3
  have sw := ow.grow.rds.cells
  have hwo4 : OwnE (k4 ++ [.row 1 [[w]] true true]) 1 wv (ws.map fun u => [u]) := ((b.wo.keep cAB (fun c hc hm => by
    simp only [List.mem_cons] at hm
    rcases hm with rfl | h
    · exact b.gw hc
    · exact b.pw c h hc)).keep c4 (by simp)).keep (Chg.app k4 _ []) (by simp)
  obtain ⟨w2, k5, e10, o5, c5, f5⟩ := ownE_append hwo4 (x := .slice k4.length 1 0 1 1 true) (X := [[w]]) (.inr <| .inr ⟨k4.length, 1, true, [[w]], true, true, rfl, by simp, rfl, by simp⟩) (by simp) (by simpa using sw.2.1) (by have := b.len; simp; omega)
  have cC : Chg k3 k5 (foot wv) := ((c4.trans (Chg.app k4 _ []) (by simp)).mono (by simp)).trans c5 (fun c hc => .inl hc)
  have hg5 := cC.2 g _ b.gw hg3
  have kl5 := cC.1
  have s5 := o5.grow.rds.cells
  have cD : Chg k5 (k5.set g (bookB p2 w2)) [g] := (Chg.refl _ _).set (.inl (by simp))
  have cAll : Chg k (k5.set g (bookB p2 w2)) (g :: (foot pv ++ foot wv)) := ((cAB.mono (by intro c hc; simp at hc ⊢; rcases hc with h | h <;> simp [h])).trans cC (fun c hc => .inl (by simp [hc]))).trans cD (fun c hc => by simp at hc; simp [hc])
  have hfin := hQ (.tuple [], k5.set g (bookB p2 w2))
  have kl23 : k2.length ≤ k3.length := by rw [← hk3]; simp
  have kl34 := c4.1
  have p2a : ∀ c ∈ foot p2, k.length ≤ c ∧ c < k3.length := fun c hc => ⟨by have := f2 c hc; simp at this; omega, by have := o2.lt c hc; omega⟩
  have w2a : ∀ c ∈ foot w2, k4.length ≤ c := fun c hc => by have := f5 c hc; simp at this; omega
  have wa : ∀ c ∈ foot w, k3.length ≤ c ∧ c < k4.length := fun c hc => ⟨f4 c hc, ow.lt c hc⟩
  have vla : ∀ i (h : i < vs.length), ∀ c ∈ foot vs[i], c < k.length := fun i h => (b.vo i h).lt
  have vl : ∀ c ∈ foot v, c < k.length := ho.lt
  have wsa : ∀ i (h : i < ws.length), ∀ c ∈ foot ws[i], c < k.length := fun i h => (b.uo i h).lt
  have wva := b.wo.lt
  have g2 : g ∉ foot p2 := fun h => by have := (p2a g h).1; omega
  have g3 : g ∉ foot w2 := fun h => by have := w2a g h; omega
  have g4 : g ∉ foot w := fun h => by have := (wa g h).1; omega
  have vold : ∀ i (h : i < vs.length), ∀ c ∈ foot vs[i], c ∉ g :: (foot pv ++ foot wv) := fun i h c hc hm => by
    simp only [List.mem_cons, List.mem_append] at hm
    rcases hm with rfl | hm | hm
    · exact b.ap.gv i h hc
    · exact b.ap.pv i h c hm hc
    · exact b.vw i h c hc hm
  have uold : ∀ i (h : i < ws.length), ∀ c ∈ foot ws[i], c ∉ g :: (foot pv ++ foot wv) := fun i h c hc hm => by
    simp only [List.mem_cons, List.mem_append] at hm
    rcases hm with rfl | hm | hm
    · exact b.ug i h hc
    · exact b.up i h c hc hm
    · exact b.uw i h c hc hm
  have vnew : ∀ c ∈ foot v, c ∉ g :: (foot pv ++ foot wv) := fun c hc hm => hv c hc (by
    simp only [List.mem_cons, List.mem_append, BkAt.mine] at hm ⊢
    rcases hm with h | h | h <;> simp [h])
  have vsv : ∀ i (h : i < vs.length), ∀ c ∈ foot vs[i], c ∉ foot v := fun i h c hc hm => hv c hm (by have := mem_feet h hc; simp [BkAt.mine, this])
  have k2k3 : Chg k2 k3 [g] := cB
  have hp5 : OwnE (k5.set g (bookB p2 w2)) 1 p2 ((vs ++ [v]).map fun u => [u]) := by
    have h1 := ((o2.keep k2k3 (by intro c hc; simp; rintro rfl; exact g2 hc)).keep cC (fun c hc hm => by have := (p2a c hc).1; have := wva c hm; omega)).keep cD (by intro c hc; simp; rintro rfl; exact g2 hc)
    simpa using h1
  have hw5 : OwnE (k5.set g (bookB p2 w2)) 1 w2 ((ws ++ [w]).map fun u => [u]) := by
    have h1 := o5.keep cD (by intro c hc; simp; rintro rfl; exact g3 hc)
    simpa using h1
  have hnw : OwnE (k5.set g (bookB p2 w2)) 1 w L := ((ow.keep (Chg.app k4 _ []) (by simp)).keep c5 (fun c hc hm => by have := (wa c hc).1; have := wva c hm; omega)).keep cD (by intro c hc; simp; rintro rfl; exact g4 hc)
  -- a list of one more
  have lift : ∀ {l : List AV} {x : AV} {T : Nat → AV → Prop}, (∀ i (h : i < l.length), T i l[i]) → T l.length x → ∀ i (h : i < (l ++ [x]).length), T i (l ++ [x])[i] := by
    intro l x T h1 h2 i h
    by_cases hi : i < l.length
    · rw [List.getElem_append_left hi]; exact h1 i hi
    · have : i = l.length := by simp at h; omega
      subst this
      rw [List.getElem_append_right (Nat.le_refl _)]
      simpa using h2
  have swv := b.wo.grow.rds.cells
  have hfin2 : Q (.tuple [], k5.set g (bookB p2 w2)) := by
    refine hfin ⟨p2, w2, w, _, rfl, ⟨get_set_same hg5, hp5, hw5, by have := b.len; simp; omega, ?_, ?_, ⟨?_, ?_, ?_⟩, g2, g3, ?_, ?_, ?_, ?_, ?_⟩, cAll, fun c hc => (p2a c hc).1, fun c hc => by have := w2a c hc; omega, fun c hc => by have := (wa c hc).1; omega⟩
    · exact lift (T := fun i x => OwnE _ 1 x (Ls i)) (fun i h => (b.vo i h).keep cAll (vold i h)) (by rw [h0]; exact ho.keep cAll vnew)
    · exact lift (T := fun i x => OwnE _ 1 x (Ls i)) (fun i h => (b.uo i h).keep cAll (uold i h)) (by rw [b.len, h0]; exact hnw)
    · exact lift (T := fun i x => g ∉ foot x) b.ap.gv hgv
    · exact lift (T := fun i x => ∀ c ∈ foot p2, c ∉ foot x) (fun i h c hc hm => by have := (p2a c hc).1; have := vla i h c hm; omega) (fun c hc hm => by have := (p2a c hc).1; have := vl c hm; omega)
    · intro i j hi hj hij c hc hm
      by_cases h1 : i < vs.length
      · rw [List.getElem_append_left h1] at hc
        by_cases h2 : j < vs.length
        · rw [List.getElem_append_left h2] at hm; exact b.ap.vv i j h1 h2 hij c hc hm
        · have : j = vs.length := by simp at hj; omega
          subst this
          rw [List.getElem_append_right (Nat.le_refl _)] at hm
          exact vsv i h1 c hc (by simpa using hm)
      · have e1 : i = vs.length := by simp at hi; omega
        subst e1
        rw [List.getElem_append_right (Nat.le_refl _)] at hc
        have h2 : j < vs.length := by simp at hj; omega
        rw [List.getElem_append_left h2] at hm
        exact vsv j h2 c hm (by simpa using hc)
    · exact fun c hc hm => by have := (p2a c hc).2; have := w2a c hm; omega
    · exact lift (T := fun i x => ∀ c ∈ foot x, c ∉ foot w2) (fun i h c hc hm => by have := vla i h c hc; have := w2a c hm; omega) (fun c hc hm => by have := vl c hc; have := w2a c hm; omega)
    · exact lift (T := fun i x => g ∉ foot x) b.ug g4
    · exact lift (T := fun i x => ∀ c ∈ foot x, c ∉ foot p2) (fun i h c hc hm => by have := wsa i h c hc; have := (p2a c hm).1; omega) (fun c hc hm => by have := (wa c hc).1; have := (p2a c hm).2; omega)
    · exact lift (T := fun i x => ∀ c ∈ foot x, c ∉ foot w2) (fun i h c hc hm => by have := wsa i h c hc; have := w2a c hm; omega) (fun c hc hm => by have := (wa c hc).2; have := w2a c hm; omega)
  unfold bookB at hfin2
  simp [sf13, yld_some, exec_reg, exec_dreg, exec_seq, exec_cond, exec_block, exec_scope, exec_exit, exec_ret, exec_skip, exec_loop, ops_nil, ops_cons, ops_cons_gd, stages_nil, stages_cons_n, stages_cons_h, recheck, wantsOp, AV.same, sames, evalOp_p, evalOp_r, evalOp_a, evalOp_call, evalOp_callV, evalOp_store, evalOp_append, evalOp_clear, evalOp_mapUpdate, evalOp_delete, pP_move, pP_pick, pP_build, pP_nil_ptr, pP_nil_func, pP_bin, pP_eq, pP_neg, pP_inv, pP_not, pP_convInt, pP_convStr, pP_fieldAddr, pP_field, pP_indexAddr, pP_indexStr, pP_sliceStr, pP_sliceSl, pP_lenStr, pP_lenNil, pP_lenSl, pP_min, pP_max, pP_extract, pP_mkfn, bV_add, bV_sub, bV_mul, bV_quo, bV_rem, bV_and, bV_or, bV_xor, bV_andNot, bV_eql, bV_neq, bV_lss, bV_leq, bV_gtr, bV_geq, bV_shl, bV_shr, bV_str, eV_bool, eV_nn, eV_np, eV_pn, eV_snn, eV_sns, eV_ssn, eV_mnn, eV_mnm, eV_mmn, eV_fnn, eV_fnf, eV_ffn, eV_agg, rP_load, rP_lenNil, rP_str0, rdEl_K, rdK_row, aP_alloc, aP_box, aP_buildSlice, aP_makeSlice, aP_makeMap, aP_toBytes, hP_store, storeK_some, st_K, stK_row, stE_some, cells_agg, cells_bool, scalar_bool, cells_int, scalar_int, cells_str, scalar_str, cells_nilptr, scalar_nilptr, cells_ptr, scalar_ptr, cells_nilslice, scalar_nilslice, cells_slice, scalar_slice, cells_nilmap, scalar_nilmap, cells_map, scalar_map, cells_nilfunc, scalar_nilfunc, cells_func, scalar_func, eqCells, eqLeaf, run_toL, toL_some, ev_toL, getD_toL, put_toL, keep_toL, asc, fput_same, fput_ne, fbase_nil, fbase_cons, fkeep_nil, fkeep_cons, fzero, fnone, List.map_cons, List.map_nil, ev_lit, put_none, resVals, resVal, resOf, partV, fillA, putCells, fillEls, strBin, minV, optNat, appendEls, elsOf, sliceSlV, sliceStrV, List.replicate, List.getElem?_append_left, List.getElem?_append_right, List.set_append_left, List.set_append_right, List.getElem?_set_self, List.getElem?_set_ne, hq_get0, hq_get, hq_get2, hq_get3, hp_get0, hp_get, hp_get2, hp_get3, hp_set0, hp_set, hp_set2, hp_set3, wr_0, wr_1, wr_2, wr_3, wr_4, wr_n1, lp, hlen, hd, hg, get_app hg, set_app hg, get_set_same hg, get_set_app hg, set_set_app hg, len_beq hg, beq_len hg, hg2, get_app hg2, set_app hg2, get_set_same hg2, get_set_app hg2, set_set_app hg2, len_beq hg2, beq_len hg2, hk3, hg3, get_app hg3, set_app hg3, get_set_same hg3, get_set_app hg3, set_set_app hg3, len_beq hg3, beq_len hg3, hg4, get_app hg4, set_app hg4, get_set_same hg4, get_set_app hg4, set_set_app hg4, len_beq hg4, beq_len hg4, hg5, get_app hg5, set_app hg5, get_set_same hg5, get_set_app hg5, set_set_app hg5, len_beq hg5, beq_len hg5, e9, e22, e10, sv.1, sv.2.1, s2.1, s2.2.1, sw.1, sw.2.1, s5.1, s5.2.1, swv.1, swv.2.1, swv.2.2, hfin2]
end Go.Proofs.Ytfkhdfnjlegnhaa.Bk
