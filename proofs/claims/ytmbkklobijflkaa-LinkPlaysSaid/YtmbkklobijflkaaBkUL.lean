/- A book of lists: one more list of letters. (written by genbk.py) -/
import Derived.Test.YtmbkklobijflkaaBkZ
set_option maxRecDepth 100000
set_option linter.unusedVariables false
set_option linter.unusedSimpArgs false
namespace Go.Proofs.Ytmbkklobijflkaa.BkL
open Go Go.Eng F Bk

set_option maxHeartbeats 8000000 in
theorem add_core {k : H} {g : Nat} {pi wi pl wl v : AV} {vs ws : List AV} {L : List (List AV)} {X : List Ltr} (hg : k[g]? = some (bookB pi wi pl wl)) (po : OwnE k 1 pl (vs.map fun u => [u])) (wo : OwnE k 1 wl (ws.map fun u => [u])) (hlen : vs.length < 250) (hlw : ws.length = vs.length)
    (ho : OwnE k 21 v L) (hL : Reps k L X) (hs : X.length ≤ 50000 ∧ ∀ x ∈ X, x.small) (gp : g ∉ foot pl) (gw : g ∉ foot wl) (pw : ∀ c ∈ foot pl, c ∉ foot wl) (gv : g ∉ foot v) (vp : ∀ c ∈ foot v, c ∉ foot pl) (nes : ∀ e ∈ L, ∀ a ∈ e, ∀ c ∈ foot0 a, c ≠ g ∧ c ∉ foot pl)
    (so1 : pi.cells = some [pi] ∧ pi.scalar = true) (so2 : wi.cells = some [wi] ∧ wi.scalar = true) (so3 : pl.cells = some [pl] ∧ pl.scalar = true) (so4 : wl.cells = some [wl] ∧ wl.scalar = true) :
    Yld (call Lp.fs3 Lp.ex3 22 [.ptr g 0 0, v] k) fun r => ∃ pv' wv' w M k' n1 n2, r = (.tuple [], k') ∧ k'[g]? = some (bookB pi wi pv' wv') ∧ OwnE k' 1 pv' ((vs ++ [v]).map fun u => [u]) ∧ OwnE k' 1 wv' ((ws ++ [w]).map fun u => [u]) ∧ OwnE k' 21 w M ∧ Reps k' M X ∧ Chg k k' (g :: (foot pl ++ foot wl)) ∧
      k.length ≤ n1 ∧ n1 ≤ n2 ∧ (∀ c ∈ foot pv', k.length ≤ c ∧ c < n1) ∧ (∀ c ∈ foot w, n1 ≤ c ∧ c < n2) ∧ (∀ e ∈ M, ∀ a ∈ e, ∀ c ∈ foot0 a, n1 ≤ c ∧ c < n2) ∧ (∀ c ∈ foot wv', n2 ≤ c) := by
  refine yld_shut fun Q hQ => ?_
  rw [call_eq Lp.fs3 Lp.ex3 (f := 22) (sf := sf22) rfl]
  have hgl := (List.getElem?_eq_some_iff.1 hg).1
  have lp := po.rds.len
  simp only [List.length_map] at lp
  have hd : decide ((vs.length : Int) < 250) = true := dec_true (by omega)
  have sv := ho.rds.cells
  have hgx := hg
  unfold bookB at hg
  obtain ⟨p2, k2, e9, o2, c2, f2⟩ := ownE_append (po.keep (Chg.app k [.row 1 [[v]] true true] []) (by simp)) (x := .slice k.length 1 0 1 1 true) (X := [[v]]) (.inr <| .inr ⟨k.length, 1, true, [[v]], true, true, rfl, by simp, rfl, by simp⟩) (by simp) (by simpa using sv.2.1) (by simp; omega)
  have cA : Chg k k2 (foot pl) := ((Chg.app k _ []).mono (by simp)).trans c2 (fun c hc => .inl hc)
  have hg2 := cA.2 g _ gp hg
  have kl2 := cA.1
  have s2 := o2.rds.cells
  have cB : Chg k2 (k2.set g (bookB pi wi p2 wl)) [g] := (Chg.refl _ _).set (.inl (by simp))
  have cAB : Chg k (k2.set g (bookB pi wi p2 wl)) (g :: foot pl) := (cA.mono (by intro c hc; simp [hc])).trans cB (fun c hc => by simp at hc; simp [hc])
  have hg3 : (k2.set g (bookB pi wi p2 wl))[g]? = some (bookB pi wi p2 wl) := get_set_same hg2
  have ho3 := ho.keep cAB (fun c hc hm => by
    simp only [List.mem_cons] at hm
    rcases hm with rfl | h
    · exact gv hc
    · exact vp c hc h)
  have hL3 := hL.keep cAB (fun e he a ha c hc hm => by
    have := nes e he a ha c hc
    simp only [List.mem_cons] at hm
    rcases hm with h | h
    · exact this.1 h
    · exact this.2 h)
  generalize hk3 : k2.set g (bookB pi wi p2 wl) = k3 at *
  unfold bookB at hg3
  have kl3 := cAB.1
  have kl23 : k2.length ≤ k3.length := by rw [← hk3]; simp
  obtain ⟨⟨w, k4⟩, e22, _, _, M, hr, ow, hM, c4, f4, f4n⟩ := copy_call (ho3.rds) hL3 hs.2 (by have := hs.1; omega)
  cases hr
  have hg4 := c4.2 g _ (by simp) hg3
  have sw := ow.rds.cells
  have hwo4 : OwnE (k4 ++ [.row 1 [[w]] true true]) 1 wl (ws.map fun u => [u]) := ((wo.keep cAB (fun c hc hm => by
    simp only [List.mem_cons] at hm
    rcases hm with rfl | h
    · exact gw hc
    · exact pw c h hc)).keep c4 (by simp)).keep (Chg.app k4 _ []) (by simp)
  obtain ⟨w2, k5, e10, o5, c5, f5⟩ := ownE_append hwo4 (x := .slice k4.length 1 0 1 1 true) (X := [[w]]) (.inr <| .inr ⟨k4.length, 1, true, [[w]], true, true, rfl, by simp, rfl, by simp⟩) (by simp) (by simpa using sw.2.1) (by simp; omega)
  have cC : Chg k3 k5 (foot wl) := ((c4.trans (Chg.app k4 _ []) (by simp)).mono (by simp)).trans c5 (fun c hc => .inl hc)
  have hg5 := cC.2 g _ gw hg3
  have kl5 := cC.1
  have kl34 := c4.1
  have s5 := o5.rds.cells
  have cD : Chg k5 (k5.set g (bookB pi wi p2 w2)) [g] := (Chg.refl _ _).set (.inl (by simp))
  have cAll : Chg k (k5.set g (bookB pi wi p2 w2)) (g :: (foot pl ++ foot wl)) := ((cAB.mono (by intro c hc; simp at hc ⊢; rcases hc with h | h <;> simp [h])).trans cC (fun c hc => .inl (by simp [hc]))).trans cD (fun c hc => by simp at hc; simp [hc])
  have p2a : ∀ c ∈ foot p2, k.length ≤ c ∧ c < k3.length := fun c hc => ⟨by have := f2 c hc; simp at this; omega, by have := o2.lt c hc; omega⟩
  have w2a : ∀ c ∈ foot w2, k4.length ≤ c := fun c hc => by have := f5 c hc; simp at this; omega
  have wa : ∀ c ∈ foot w, k3.length ≤ c ∧ c < k4.length := fun c hc => ⟨f4 c hc, ow.lt c hc⟩
  have na : ∀ e ∈ M, ∀ a ∈ e, ∀ c ∈ foot0 a, k3.length ≤ c ∧ c < k4.length := fun e he a ha c hc => ⟨(f4n e he a ha c hc).1, hM.lt0 e he a ha c hc⟩
  have wva := wo.lt
  have wvk : ∀ c ∈ foot wl, c < k.length := wo.lt
  have g2 : g ∉ foot p2 := fun h => by have := (p2a g h).1; omega
  have g3 : g ∉ foot w2 := fun h => by have := w2a g h; omega
  have g4 : g ∉ foot w := fun h => by have := (wa g h).1; omega
  have hp5 : OwnE (k5.set g (bookB pi wi p2 w2)) 1 p2 ((vs ++ [v]).map fun u => [u]) := by
    have h1 := ((o2.keep cB (by intro c hc; simp; rintro rfl; exact g2 hc)).keep cC (fun c hc hm => by have := (p2a c hc).1; have := wvk c hm; omega)).keep cD (by intro c hc; simp; rintro rfl; exact g2 hc)
    simpa using h1
  have hw5 : OwnE (k5.set g (bookB pi wi p2 w2)) 1 w2 ((ws ++ [w]).map fun u => [u]) := by
    have h1 := o5.keep cD (by intro c hc; simp; rintro rfl; exact g3 hc)
    simpa using h1
  have hnw : OwnE (k5.set g (bookB pi wi p2 w2)) 21 w M := ((ow.keep (Chg.app k4 _ []) (by simp)).keep c5 (fun c hc hm => by have := (wa c hc).1; have := wvk c hm; omega)).keep cD (by intro c hc; simp; rintro rfl; exact g4 hc)
  have hnM : Reps (k5.set g (bookB pi wi p2 w2)) M X := ((hM.keep (Chg.app k4 _ []) (by simp)).keep c5 (fun e he a ha c hc hm => by have := (na e he a ha c hc).1; have := wvk c hm; omega)).keep cD (by intro e he a ha c hc; simp; rintro rfl; have := (na e he a ha _ hc).1; omega)
  have hfin2 := hQ (.tuple [], k5.set g (bookB pi wi p2 w2)) ⟨p2, w2, w, M, _, k3.length, k4.length, rfl, get_set_same hg5, hp5, hw5, hnw, hnM, cAll, kl3, kl34, p2a, wa, na, w2a⟩
  have swv := wo.rds.cells
  have spv := po.rds.cells
  unfold bookB at hfin2 hk3
  simp [sf22, yld_some, exec_reg, exec_dreg, exec_seq, exec_cond, exec_block, exec_scope, exec_exit, exec_ret, exec_skip, exec_loop, ops_nil, ops_cons, ops_cons_gd, stages_nil, stages_cons_n, stages_cons_h, recheck, wantsOp, AV.same, sames, evalOp_p, evalOp_r, evalOp_a, evalOp_call, evalOp_callV, evalOp_store, evalOp_append, evalOp_clear, evalOp_mapUpdate, evalOp_delete, pP_move, pP_pick, pP_build, pP_nil_ptr, pP_nil_func, pP_bin, pP_eq, pP_neg, pP_inv, pP_not, pP_convInt, pP_convStr, pP_fieldAddr, pP_field, pP_indexAddr, pP_indexStr, pP_sliceStr, pP_sliceSl, pP_lenStr, pP_lenNil, pP_lenSl, pP_min, pP_max, pP_extract, pP_mkfn, bV_add, bV_sub, bV_mul, bV_quo, bV_rem, bV_and, bV_or, bV_xor, bV_andNot, bV_eql, bV_neq, bV_lss, bV_leq, bV_gtr, bV_geq, bV_shl, bV_shr, bV_str, eV_bool, eV_nn, eV_np, eV_pn, eV_snn, eV_sns, eV_ssn, eV_mnn, eV_mnm, eV_mmn, eV_fnn, eV_fnf, eV_ffn, eV_agg, rP_load, rP_lenNil, rP_str0, rdEl_K, rdK_row, aP_alloc, aP_box, aP_buildSlice, aP_makeSlice, aP_makeMap, aP_toBytes, hP_store, storeK_some, st_K, stK_row, stE_some, cells_agg, cells_bool, scalar_bool, cells_int, scalar_int, cells_str, scalar_str, cells_nilptr, scalar_nilptr, cells_ptr, scalar_ptr, cells_nilslice, scalar_nilslice, cells_slice, scalar_slice, cells_nilmap, scalar_nilmap, cells_map, scalar_map, cells_nilfunc, scalar_nilfunc, cells_func, scalar_func, eqCells, eqLeaf, run_toL, toL_some, ev_toL, getD_toL, put_toL, keep_toL, asc, fput_same, fput_ne, fbase_nil, fbase_cons, fkeep_nil, fkeep_cons, fzero, fnone, List.map_cons, List.map_nil, ev_lit, put_none, resVals, resVal, resOf, partV, fillA, putCells, fillEls, strBin, minV, optNat, appendEls, elsOf, sliceSlV, sliceStrV, List.replicate, List.getElem?_append_left, List.getElem?_append_right, List.set_append_left, List.set_append_right, List.getElem?_set_self, List.getElem?_set_ne, hq_get0, hq_get, hq_get2, hq_get3, hp_get0, hp_get, hp_get2, hp_get3, hp_set0, hp_set, hp_set2, hp_set3, wr_0, wr_1, wr_2, wr_3, wr_4, wr_n1, lp, hlen, hd, hg, get_app hg, set_app hg, get_set_same hg, get_set_app hg, set_set_app hg, len_beq hg, beq_len hg, hg2, get_app hg2, set_app hg2, get_set_same hg2, get_set_app hg2, set_set_app hg2, len_beq hg2, beq_len hg2, hk3, hg3, get_app hg3, set_app hg3, get_set_same hg3, get_set_app hg3, set_set_app hg3, len_beq hg3, beq_len hg3, hg4, get_app hg4, set_app hg4, get_set_same hg4, get_set_app hg4, set_set_app hg4, len_beq hg4, beq_len hg4, hg5, get_app hg5, set_app hg5, get_set_same hg5, get_set_app hg5, set_set_app hg5, len_beq hg5, beq_len hg5, e9, e22, e10, sv.1, sv.2.1, s2.1, s2.2.1, sw.1, sw.2.1, s5.1, s5.2.1, swv.1, swv.2.1, swv.2.2, spv.1, spv.2.1, spv.2.2, so1.1, so1.2, so2.1, so2.2, so3.1, so3.2, so4.1, so4.2, hfin2]
set_option maxHeartbeats 4000000 in
theorem add_full {k : H} {g : Nat} {pi wi pl wl v : AV} {vs : List AV} (hg : k[g]? = some (bookB pi wi pl wl)) (po : OwnE k 1 pl (vs.map fun u => [u])) (hlen : 250 ≤ vs.length) : call Lp.fs3 Lp.ex3 22 [.ptr g 0 0, v] k = some (.tuple [], k) := by
  rw [call_eq Lp.fs3 Lp.ex3 (f := 22) (sf := sf22) rfl]
  have lp := po.rds.len
  simp only [List.length_map] at lp
  have hd : decide ((vs.length : Int) < 250) = false := dec_false (by omega)
  have hd' : decide (vs.length < 250) = false := dec_false (by omega)
  have hd2 : ¬ vs.length < 250 := by omega
  unfold bookB at hg
  simp [sf22, yld_some, exec_reg, exec_dreg, exec_seq, exec_cond, exec_block, exec_scope, exec_exit, exec_ret, exec_skip, exec_loop, ops_nil, ops_cons, ops_cons_gd, stages_nil, stages_cons_n, stages_cons_h, recheck, wantsOp, AV.same, sames, evalOp_p, evalOp_r, evalOp_a, evalOp_call, evalOp_callV, evalOp_store, evalOp_append, evalOp_clear, evalOp_mapUpdate, evalOp_delete, pP_move, pP_pick, pP_build, pP_nil_ptr, pP_nil_func, pP_bin, pP_eq, pP_neg, pP_inv, pP_not, pP_convInt, pP_convStr, pP_fieldAddr, pP_field, pP_indexAddr, pP_indexStr, pP_sliceStr, pP_sliceSl, pP_lenStr, pP_lenNil, pP_lenSl, pP_min, pP_max, pP_extract, pP_mkfn, bV_add, bV_sub, bV_mul, bV_quo, bV_rem, bV_and, bV_or, bV_xor, bV_andNot, bV_eql, bV_neq, bV_lss, bV_leq, bV_gtr, bV_geq, bV_shl, bV_shr, bV_str, eV_bool, eV_nn, eV_np, eV_pn, eV_snn, eV_sns, eV_ssn, eV_mnn, eV_mnm, eV_mmn, eV_fnn, eV_fnf, eV_ffn, eV_agg, rP_load, rP_lenNil, rP_str0, rdEl_K, rdK_row, aP_alloc, aP_box, aP_buildSlice, aP_makeSlice, aP_makeMap, aP_toBytes, hP_store, storeK_some, st_K, stK_row, stE_some, cells_agg, cells_bool, scalar_bool, cells_int, scalar_int, cells_str, scalar_str, cells_nilptr, scalar_nilptr, cells_ptr, scalar_ptr, cells_nilslice, scalar_nilslice, cells_slice, scalar_slice, cells_nilmap, scalar_nilmap, cells_map, scalar_map, cells_nilfunc, scalar_nilfunc, cells_func, scalar_func, eqCells, eqLeaf, run_toL, toL_some, ev_toL, getD_toL, put_toL, keep_toL, asc, fput_same, fput_ne, fbase_nil, fbase_cons, fkeep_nil, fkeep_cons, fzero, fnone, List.map_cons, List.map_nil, ev_lit, put_none, resVals, resVal, resOf, partV, fillA, putCells, fillEls, strBin, minV, optNat, appendEls, elsOf, sliceSlV, sliceStrV, List.replicate, List.getElem?_append_left, List.getElem?_append_right, List.set_append_left, List.set_append_right, List.getElem?_set_self, List.getElem?_set_ne, hq_get0, hq_get, hq_get2, hq_get3, hp_get0, hp_get, hp_get2, hp_get3, hp_set0, hp_set, hp_set2, hp_set3, wr_0, wr_1, wr_2, wr_3, wr_4, wr_n1, lp, hd, hd', hd2, hg, get_app hg, set_app hg, get_set_same hg, get_set_app hg, set_set_app hg, len_beq hg, beq_len hg]
end Go.Proofs.Ytmbkklobijflkaa.BkL
