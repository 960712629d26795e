/- Finger: FingerTells over the engine. -/
import Derived.Test.YtfkhdfnjlegnhaaFingF
set_option maxRecDepth 100000
set_option linter.unusedVariables false
set_option linter.unusedSimpArgs false
namespace Go.Proofs.Ytfkhdfnjlegnhaa.Fg
open Go Go.Eng F Bk

theorem slOf_rds {h : H} {v : AV} {els : List (List AV)} (hs : SlOf h 1 v els) : RdS h 1 v els := by
  rcases hs with h | ⟨b, c, rfl, hc, hb⟩
  · exact .inl h
  · by_cases h0 : els = []
    · subst h0; exact .inr (.inl ⟨b, c, true, rfl, rfl⟩)
    · exact .inr (.inr ⟨b, c, true, els, false, false, rfl, hb h0, List.take_length, Nat.le_refl _⟩)
theorem pts_isPts (L : List Int) : IsPts (pts L) := by
  intro e he
  simp only [pts, List.mem_map] at he
  obtain ⟨x, _, rfl⟩ := he
  exact ⟨x, rfl⟩
/-- All that is called, from the list on that is lent. -/
structure Run (kk : H) (T : AV) (TL : List Int) (me t : Int) (m f g' w : AV) (ok : Bool) (b : Nat) (k1 k2 k3 k4 k5 k6 k7 k8 k9 k10 : H) (w' f' : AV) : Prop where
  e10 : call fs0 ex0 10 [T] kk = some (m, k1)
  b0 : b = k1.length
  e11 : call fs0 ex0 11 [.int .u64 me, m] (k1 ++ [bookB .nilslice .nilslice]) = some (f, k2)
  e11' : call fs0 ex0 11 [.int .u64 me, m] k2 = some (g', k3)
  e12 : call fs0 ex0 12 [.int .u64 me, .int .u64 t, m] k3 = some (.tuple [w, .bool ok], k4)
  e13 : call fs0 ex0 13 [.ptr b 0 0, f] k4 = some (.tuple [], k5)
  e13' : call fs0 ex0 13 [.ptr b 0 0, g'] k5 = some (.tuple [], k6)
  e13'' : call fs0 ex0 13 [.ptr b 0 0, w] k6 = some (.tuple [], k7)
  e14 : call fs0 ex0 14 [.int .u64 me, .int .u64 t, m] k7 = some (hopA me t TL, k7)
  e15 : call fs0 ex0 15 [.int .u64 me, .int .u64 t, T] k7 = some (hopA me t TL, k7)
  e16 : call fs0 ex0 16 [.int .u64 me, .int .u64 t, T] k7 = some (.tuple [w', .bool ok], k8)
  e18 : call fs0 ex0 18 [.int .u64 me, T] k8 = some (f', k9)
  e17 : call fs0 ex0 17 [f, f'] k9 = some (.bool true, k9)
  e17' : call fs0 ex0 17 [w, w'] k9 = some (.bool true, k9)
  e19 : call fs0 ex0 19 [m, T] k9 = some (.bool true, k9)
  e20 : call fs0 ex0 20 [.ptr b 0 0] k9 = some (.bool true, k10)
theorem lent_lt {k : H} {m : AV} {L : List (List AV)} (hm : Lent k m L) : ∀ c ∈ foot m, c < k.length := by
  obtain ⟨b, c, x, rfl, hb, _⟩ := hm
  intro c hc
  simp only [foot, List.mem_singleton] at hc
  subst hc
  exact (List.getElem?_eq_some_iff.1 hb).1
theorem rd_keep {k k' : H} {F : List Nat} {T : AV} {TL : List Int} (hT : RdS k 1 T (pts TL)) (hc : Chg k k' F) (hf : TL ≠ [] → ∀ c ∈ foot T, c ∉ F) : RdS k' 1 T (pts TL) := by
  by_cases h0 : TL = []
  · subst h0
    rcases hT with ⟨rfl, _⟩ | ⟨bb, cc, xx, rfl, _⟩ | ⟨bb, cc, xx, els, wr, ap, rfl, _⟩
    · exact .inl ⟨rfl, rfl⟩
    · exact .inr (.inl ⟨bb, cc, xx, rfl, rfl⟩)
    · exact .inr (.inl ⟨bb, cc, xx, rfl, rfl⟩)
  · exact hT.keep hc (hf h0)
set_option maxHeartbeats 4000000 in
theorem run_all {kk : H} {T : AV} {TL : List Int} {me t : Int} (hT : RdS kk 1 T (pts TL)) (hTf : ∀ c ∈ foot T, TL ≠ [] → c < kk.length) (hlen : TL.length ≤ 40) (hme : In64 me) (h64 : ∀ x ∈ TL, In64 x) :
    ∃ m f g' w ok b k1 k2 k3 k4 k5 k6 k7 k8 k9 k10 w' f', Run kk T TL me t m f g' w ok b k1 k2 k3 k4 k5 k6 k7 k8 k9 k10 w' f' := by
  obtain ⟨⟨m, k1⟩, e10, _, _, hr, hm, c1, fm⟩ := lent_call hT (pts_isPts _) (by rw [pts_len]; omega)
  cases hr
  have lm := lent_lt hm
  obtain ⟨W, ok, hWl, hway, hrway⟩ := way_both (by omega) h64 me t
  have cB : Chg k1 (k1 ++ [bookB .nilslice .nilslice]) [] := Chg.app _ _ _
  have hmB := hm.keep cB (by simp)
  have lkB : (k1 ++ [bookB .nilslice .nilslice]).length = k1.length + 1 := by simp
  obtain ⟨⟨f, k2⟩, e11, _, _, hr, of, c2, ff⟩ := fingers_call hmB.rds (by omega) me
  cases hr
  have hm2 := hmB.keep c2 (by simp)
  obtain ⟨⟨g', k3⟩, e11', _, _, hr, og, c3, fg⟩ := fingers_call hm2.rds (by omega) me
  cases hr
  have hm3 := hm2.keep c3 (by simp)
  obtain ⟨⟨_, k4⟩, e12, w, _, hr, ow, c4, fw⟩ := hway k3 m hm3.rds
  cases hr
  have hm4 := hm3.keep c4 (by simp)
  have of4 := (of.keep c3 (by simp)).keep c4 (by simp)
  have og4 := og.keep c4 (by simp)
  have l1 := c1.1
  have l2 := c2.1
  have l3 := c3.1
  have l4 := c4.1
  rw [lkB] at l2 ff
  have hfl := (fingers_spec me TL).1
  have lf := of.lt
  have lg := og.lt
  have lw := ow.lt
  have row4 : k4[k1.length]? = some (bookB .nilslice .nilslice) := c4.2 _ _ (by simp) (c3.2 _ _ (by simp) (c2.2 _ _ (by simp) (by simp)))
  generalize hLs : (fun i : Nat => if i < 2 then pts (fingers me TL) else pts W) = Ls
  have L0 : Ls 0 = pts (fingers me TL) := by rw [← hLs]; rfl
  have L1 : Ls 1 = pts (fingers me TL) := by rw [← hLs]; rfl
  have L2 : Ls 2 = pts W := by rw [← hLs]; rfl
  have LI : ∀ i, IsPts (Ls i) ∧ (Ls i).length ≤ 50000 := by
    intro i
    rw [← hLs]
    simp only
    split
    · exact ⟨pts_isPts _, by rw [pts_len]; omega⟩
    · exact ⟨pts_isPts _, by rw [pts_len]; omega⟩
  have bk0 : BkAt k4 k1.length .nilslice .nilslice [] [] Ls :=
    ⟨row4, .inl ⟨rfl, rfl⟩, .inl ⟨rfl, rfl⟩, rfl, by simp, by simp, ⟨by simp, by simp, by simp⟩, by simp [foot], by simp [foot], by simp [foot], by simp, by simp, by simp, by simp⟩
  obtain ⟨⟨w1, k5⟩, e13, pv, wv, w5, _, hr, bk1, c5, fp, fw1, fw1'⟩ := points_call bk0 (by simp) of4 (pts_isPts _) (by rw [pts_len]; omega) (by
    intro c hc
    have := ff c hc
    simp [BkAt.mine, foot, feet]; omega) L0
  cases hr
  have l5 := c5.1
  have og5 := og4.keep c5 (by intro c hc; have := fg c hc; simp [foot]; omega)
  have ow5 := ow.keep c5 (by intro c hc; have := fw c hc; simp [foot]; omega)
  have of5 := of4.keep c5 (by intro c hc; have := ff c hc; simp [foot]; omega)
  simp only [List.nil_append] at bk1
  obtain ⟨⟨w2, k6⟩, e13', pv2, wv2, w6, _, hr, bk2, c6, fp2, fw2, fw2'⟩ := points_call bk1 (by simp) og5 (pts_isPts _) (by rw [pts_len]; omega) (by
    intro c hc
    have h1 := fg c hc
    have h2 := lg c hc
    simp only [BkAt.mine, feet, List.flatMap_cons, List.flatMap_nil, List.append_nil, List.mem_cons, List.mem_append, List.not_mem_nil, or_false]
    rintro (h | ((h | h) | h) | h)
    · omega
    · have := fp _ h; omega
    · have := fw1 _ h; omega
    · have := lf _ h; omega
    · have := fw1' _ h; omega) L1
  cases hr
  have l6 := c6.1
  have avoid6 : ∀ c, k1.length < c → c < k4.length → c ∉ k1.length :: (foot pv ++ foot wv) := by
    intro c h1 h2
    simp only [List.mem_cons, List.mem_append]
    rintro (h | h | h)
    · omega
    · have := fp _ h; omega
    · have := fw1 _ h; omega
  have ow6 := ow5.keep c6 (fun c hc => avoid6 c (by have := fw c hc; omega) (lw c hc))
  have of6 := of5.keep c6 (fun c hc => avoid6 c (by have := ff c hc; omega) (by have := lf c hc; omega))
  simp only [List.cons_append, List.nil_append] at bk2
  obtain ⟨⟨w3, k7⟩, e13'', pv3, wv3, w7, _, hr, bk3, c7, fp3, fw3, fw3'⟩ := points_call bk2 (by simp) ow6 (pts_isPts _) (by rw [pts_len]; omega) (by
    intro c hc
    have h1 := fw c hc
    have h2 := lw c hc
    simp only [BkAt.mine, feet, List.flatMap_cons, List.flatMap_nil, List.append_nil, List.mem_cons, List.mem_append, List.not_mem_nil, or_false]
    rintro (h | ((h | h) | h | h) | h | h)
    · omega
    · have := fp2 _ h; omega
    · have := fw2 _ h; omega
    · have := lf _ h; omega
    · have := lg _ h; omega
    · have := fw1' _ h; omega
    · have := fw2' _ h; omega) L2
  cases hr
  have l7 := c7.1
  have avoid7 : ∀ c, k1.length < c → c < k5.length → c ∉ k1.length :: (foot pv2 ++ foot wv2) := by
    intro c h1 h2
    simp only [List.mem_cons, List.mem_append]
    rintro (h | h | h)
    · omega
    · have := fp2 _ h; omega
    · have := fw2 _ h; omega
  have ow7 := ow6.keep c7 (fun c hc => avoid7 c (by have := fw c hc; omega) (by have := lw c hc; omega))
  have of7 := of6.keep c7 (fun c hc => avoid7 c (by have := ff c hc; omega) (by have := lf c hc; omega))
  have low : ∀ c, c < k1.length → (c ∉ k1.length :: (foot AV.nilslice ++ foot AV.nilslice)) ∧ (c ∉ k1.length :: (foot pv ++ foot wv)) ∧ (c ∉ k1.length :: (foot pv2 ++ foot wv2)) := by
    intro c h1
    refine ⟨by simp [foot]; omega, ?_, ?_⟩
    · simp only [List.mem_cons, List.mem_append]
      rintro (h | h | h)
      · omega
      · have := fp _ h; omega
      · have := fw1 _ h; omega
    · simp only [List.mem_cons, List.mem_append]
      rintro (h | h | h)
      · omega
      · have := fp2 _ h; omega
      · have := fw2 _ h; omega
  have hm7 := ((hm4.keep c5 (fun c hc => (low c (lm c hc)).1)).keep c6 (fun c hc => (low c (lm c hc)).2.1)).keep c7 (fun c hc => (low c (lm c hc)).2.2)
  have c04 : Chg kk k4 [] := (((c1.trans cB (by simp)).trans c2 (by simp)).trans c3 (by simp)).trans c4 (by simp)
  have hT4 : RdS k4 1 T (pts TL) := hT.keep c04 (by simp)
  have hTl : TL ≠ [] → ∀ c ∈ foot T, c < k1.length := fun h0 c hc => by have := hTf c hc h0; omega
  have hT7 := rd_keep (rd_keep (rd_keep hT4 c5 (fun h0 c hc => (low c (hTl h0 c hc)).1)) c6 (fun h0 c hc => (low c (hTl h0 c hc)).2.1)) c7 (fun h0 c hc => (low c (hTl h0 c hc)).2.2)
  have e14 := hop_call hm7.rds (by omega) me t
  have e15 := rhop_call hT7 (by omega) (t := t) hme h64
  obtain ⟨⟨_, k8⟩, e16, w', _, hr, ow', c8, fw'⟩ := hrway k7 T hT7
  cases hr
  have hT8 := hT7.keep c8 (by simp)
  obtain ⟨⟨f', k9⟩, e18, _, _, hr, of', c9, ff'⟩ := rfingers_call hT8 (by omega) me
  cases hr
  have of9 := (of7.keep c8 (by simp)).keep c9 (by simp)
  have ow9 := (ow7.keep c8 (by simp)).keep c9 (by simp)
  obtain ⟨⟨_, _⟩, e17, hr⟩ := same_call of9.grow.rds of'.grow.rds (pts_isPts _) (by rw [pts_len]; omega)
  cases hr
  obtain ⟨⟨_, _⟩, e17', hr⟩ := same_call ow9.grow.rds (ow'.keep c9 (by simp)).grow.rds (pts_isPts _) (by rw [pts_len]; omega)
  cases hr
  have hm9 := (hm7.keep c8 (by simp)).keep c9 (by simp)
  obtain ⟨⟨_, _⟩, e19, hr⟩ := stays_call hm9 (hT8.keep c9 (by simp)) (pts_isPts _) (by rw [pts_len]; omega)
  cases hr
  obtain ⟨⟨w8, k10⟩, e20, hr⟩ := ((bk3.keep c8 (by simp)).keep c9 (by simp)).apart (by simp) LI
  cases hr
  exact ⟨m, f, g', w, ok, k1.length, k1, k2, k3, k4, k5, k6, k7, k8, k9, k10, w', f', ⟨e10, rfl, e11, e11', e12, e13, e13', e13'', e14, e15, e16, e18, e17, e17', e19, e20⟩⟩
set_option maxHeartbeats 16000000 in
theorem tells_law {h : H} {v : AV} {L : List Int} (hv : SlOf h 1 v (pts L)) {me t mine : Int} (hme : In64 me) (h64 : ∀ x ∈ L, In64 x) : Yld (call fs0 ex0 3 [.int .u64 me, .int .u64 t, v, .int .i64 mine] h) fun r => r.1 = .bool true := by
  refine yld_shut fun Q hQ => ?_
  rw [call_eq fs0 ex0 (f := 3) (sf := sf3) rfl]
  have hQ' : ∀ k, Q (.bool true, k) := fun k => hQ _ rfl
  have hv0 := slOf_rds hv
  have lv := hv0.len
  rw [pts_len] at lv
  obtain ⟨⟨_, k0⟩, e9, _, hr, c0⟩ := alive_call h
  cases hr
  by_cases h40 : 40 < L.length
  · have d6 : decide ((40 : Int) < L.length) = true := dec_true (by omega)
    simp [sf3, yld_some, exec_reg, exec_dreg, exec_seq, exec_cond, exec_block, exec_scope, exec_exit, exec_ret, exec_skip, exec_loop, ops_nil, ops_cons, ops_cons_gd, stages_nil, stages_cons_n, stages_cons_h, recheck, wantsOp, AV.same, sames, evalOp_p, evalOp_r, evalOp_a, evalOp_call, evalOp_callV, evalOp_store, evalOp_append, evalOp_clear, evalOp_mapUpdate, evalOp_delete, pP_move, pP_pick, pP_build, pP_nil_ptr, pP_nil_func, pP_bin, pP_eq, pP_neg, pP_inv, pP_not, pP_convInt, pP_convStr, pP_fieldAddr, pP_field, pP_indexAddr, pP_indexStr, pP_sliceStr, pP_sliceSl, pP_lenStr, pP_lenNil, pP_lenSl, pP_min, pP_max, pP_extract, pP_mkfn, bV_add, bV_sub, bV_mul, bV_quo, bV_rem, bV_and, bV_or, bV_xor, bV_andNot, bV_eql, bV_neq, bV_lss, bV_leq, bV_gtr, bV_geq, bV_shl, bV_shr, bV_str, eV_bool, eV_nn, eV_np, eV_pn, eV_snn, eV_sns, eV_ssn, eV_mnn, eV_mnm, eV_mmn, eV_fnn, eV_fnf, eV_ffn, eV_agg, rP_load, rP_lenNil, rP_str0, rdEl_K, rdK_row, aP_alloc, aP_box, aP_buildSlice, aP_makeSlice, aP_makeMap, aP_toBytes, hP_store, storeK_some, st_K, stK_row, stE_some, cells_agg, cells_bool, scalar_bool, cells_int, scalar_int, cells_str, scalar_str, cells_nilptr, scalar_nilptr, cells_ptr, scalar_ptr, cells_nilslice, scalar_nilslice, cells_slice, scalar_slice, cells_nilmap, scalar_nilmap, cells_map, scalar_map, cells_nilfunc, scalar_nilfunc, cells_func, scalar_func, eqCells, eqLeaf, run_toL, toL_some, ev_toL, getD_toL, put_toL, keep_toL, asc, fput_same, fput_ne, fbase_nil, fbase_cons, fkeep_nil, fkeep_cons, fzero, fnone, List.map_cons, List.map_nil, ev_lit, put_none, resVals, resVal, resOf, partV, fillA, putCells, fillEls, strBin, minV, optNat, appendEls, elsOf, sliceSlV, sliceStrV, List.replicate, List.getElem?_append_left, List.getElem?_append_right, List.set_append_left, List.set_append_right, List.getElem?_set_self, List.getElem?_set_ne, hq_get0, hq_get, hq_get2, hq_get3, hp_get0, hp_get, hp_get2, hp_get3, hp_set0, hp_set, hp_set2, hp_set3, wr_0, wr_1, wr_2, wr_3, wr_4, wr_n1, lv, d6, h40, e9, hQ']
  have d6 : decide ((40 : Int) < L.length) = false := dec_false (by omega)
  have d6' : decide (40 < L.length) = false := dec_false h40
  have hT := hv0.keep c0 (by simp)
  have hTf : ∀ z ∈ foot v, L ≠ [] → z < k0.length := by
    intro z hz h0
    rcases hv with ⟨rfl, _⟩ | ⟨bb, cc, rfl, _, hb⟩
    · simp [foot] at hz
    · simp only [foot, List.mem_singleton] at hz
      subst hz
      have := (List.getElem?_eq_some_iff.1 (hb (by intro h; apply h0; cases L with | nil => rfl | cons y l => simp [pts] at h))).1
      have := c0.1
      omega
  by_cases hown : 0 ≤ mine ∧ mine < L.length
  · obtain ⟨n, rfl⟩ : ∃ n : Nat, mine = n := ⟨mine.toNat, by omega⟩
    have hn : n < L.length := by omega
    have c1 : decide ((0 : Int) ≤ n) = true := dec_true (by omega)
    have c2 : decide ((n : Int) < L.length) = true := dec_true (by omega)
    obtain ⟨is, gs⟩ := hT.idx (i := n) (by rw [pts_len]; omega)
    rw [pts_get hn] at gs
    have hx64 := h64 L[n] (List.getElem_mem hn)
    generalize L[n] = x at gs hx64
    obtain ⟨m, f, g', w, ok, b, k1, k2, k3, k4, k5, k6, k7, k8, k9, k10, w', f', R⟩ := run_all (me := x) (t := t) hT hTf (by omega) hx64 h64
    obtain ⟨e10, rfl, e11, e11', e12, e13, e13', e13'', e14, e15, e16, e18, e17, e17', e19, e20⟩ := R
    unfold hopA at e14 e15
    unfold bookB at e11
    generalize (hop x t L).1 = hx1 at *
    generalize decide (0 < (hop x t L).2) = hx2 at *
    simp [sf3, yld_some, exec_reg, exec_dreg, exec_seq, exec_cond, exec_block, exec_scope, exec_exit, exec_ret, exec_skip, exec_loop, ops_nil, ops_cons, ops_cons_gd, stages_nil, stages_cons_n, stages_cons_h, recheck, wantsOp, AV.same, sames, evalOp_p, evalOp_r, evalOp_a, evalOp_call, evalOp_callV, evalOp_store, evalOp_append, evalOp_clear, evalOp_mapUpdate, evalOp_delete, pP_move, pP_pick, pP_build, pP_nil_ptr, pP_nil_func, pP_bin, pP_eq, pP_neg, pP_inv, pP_not, pP_convInt, pP_convStr, pP_fieldAddr, pP_field, pP_indexAddr, pP_indexStr, pP_sliceStr, pP_sliceSl, pP_lenStr, pP_lenNil, pP_lenSl, pP_min, pP_max, pP_extract, pP_mkfn, bV_add, bV_sub, bV_mul, bV_quo, bV_rem, bV_and, bV_or, bV_xor, bV_andNot, bV_eql, bV_neq, bV_lss, bV_leq, bV_gtr, bV_geq, bV_shl, bV_shr, bV_str, eV_bool, eV_nn, eV_np, eV_pn, eV_snn, eV_sns, eV_ssn, eV_mnn, eV_mnm, eV_mmn, eV_fnn, eV_fnf, eV_ffn, eV_agg, rP_load, rP_lenNil, rP_str0, rdEl_K, rdK_row, aP_alloc, aP_box, aP_buildSlice, aP_makeSlice, aP_makeMap, aP_toBytes, hP_store, storeK_some, st_K, stK_row, stE_some, cells_agg, cells_bool, scalar_bool, cells_int, scalar_int, cells_str, scalar_str, cells_nilptr, scalar_nilptr, cells_ptr, scalar_ptr, cells_nilslice, scalar_nilslice, cells_slice, scalar_slice, cells_nilmap, scalar_nilmap, cells_map, scalar_map, cells_nilfunc, scalar_nilfunc, cells_func, scalar_func, eqCells, eqLeaf, run_toL, toL_some, ev_toL, getD_toL, put_toL, keep_toL, asc, fput_same, fput_ne, fbase_nil, fbase_cons, fkeep_nil, fkeep_cons, fzero, fnone, List.map_cons, List.map_nil, ev_lit, put_none, resVals, resVal, resOf, partV, fillA, putCells, fillEls, strBin, minV, optNat, appendEls, elsOf, sliceSlV, sliceStrV, List.replicate, List.getElem?_append_left, List.getElem?_append_right, List.set_append_left, List.set_append_right, List.getElem?_set_self, List.getElem?_set_ne, hq_get0, hq_get, hq_get2, hq_get3, hp_get0, hp_get, hp_get2, hp_get3, hp_set0, hp_set, hp_set2, hp_set3, wr_0, wr_1, wr_2, wr_3, wr_4, wr_n1, lv, d6, d6', h40, e9, c1, c2, hn, is, gs, e10, e11, e11', e12, e13, e13', e13'', e14, e15, e16, e18, e17, e17', e19, e20, hQ']
  · obtain ⟨m, f, g', w, ok, b, k1, k2, k3, k4, k5, k6, k7, k8, k9, k10, w', f', R⟩ := run_all (me := me) (t := t) hT hTf (by omega) hme h64
    obtain ⟨e10, rfl, e11, e11', e12, e13, e13', e13'', e14, e15, e16, e18, e17, e17', e19, e20⟩ := R
    unfold hopA at e14 e15
    unfold bookB at e11
    generalize (hop me t L).1 = hx1 at *
    generalize decide (0 < (hop me t L).2) = hx2 at *
    by_cases h0 : 0 ≤ mine
    · have c1 : decide ((0 : Int) ≤ mine) = true := dec_true h0
      have c2 : decide (mine < (L.length : Nat)) = false := dec_false (by omega)
      simp [sf3, yld_some, exec_reg, exec_dreg, exec_seq, exec_cond, exec_block, exec_scope, exec_exit, exec_ret, exec_skip, exec_loop, ops_nil, ops_cons, ops_cons_gd, stages_nil, stages_cons_n, stages_cons_h, recheck, wantsOp, AV.same, sames, evalOp_p, evalOp_r, evalOp_a, evalOp_call, evalOp_callV, evalOp_store, evalOp_append, evalOp_clear, evalOp_mapUpdate, evalOp_delete, pP_move, pP_pick, pP_build, pP_nil_ptr, pP_nil_func, pP_bin, pP_eq, pP_neg, pP_inv, pP_not, pP_convInt, pP_convStr, pP_fieldAddr, pP_field, pP_indexAddr, pP_indexStr, pP_sliceStr, pP_sliceSl, pP_lenStr, pP_lenNil, pP_lenSl, pP_min, pP_max, pP_extract, pP_mkfn, bV_add, bV_sub, bV_mul, bV_quo, bV_rem, bV_and, bV_or, bV_xor, bV_andNot, bV_eql, bV_neq, bV_lss, bV_leq, bV_gtr, bV_geq, bV_shl, bV_shr, bV_str, eV_bool, eV_nn, eV_np, eV_pn, eV_snn, eV_sns, eV_ssn, eV_mnn, eV_mnm, eV_mmn, eV_fnn, eV_fnf, eV_ffn, eV_agg, rP_load, rP_lenNil, rP_str0, rdEl_K, rdK_row, aP_alloc, aP_box, aP_buildSlice, aP_makeSlice, aP_makeMap, aP_toBytes, hP_store, storeK_some, st_K, stK_row, stE_some, cells_agg, cells_bool, scalar_bool, cells_int, scalar_int, cells_str, scalar_str, cells_nilptr, scalar_nilptr, cells_ptr, scalar_ptr, cells_nilslice, scalar_nilslice, cells_slice, scalar_slice, cells_nilmap, scalar_nilmap, cells_map, scalar_map, cells_nilfunc, scalar_nilfunc, cells_func, scalar_func, eqCells, eqLeaf, run_toL, toL_some, ev_toL, getD_toL, put_toL, keep_toL, asc, fput_same, fput_ne, fbase_nil, fbase_cons, fkeep_nil, fkeep_cons, fzero, fnone, List.map_cons, List.map_nil, ev_lit, put_none, resVals, resVal, resOf, partV, fillA, putCells, fillEls, strBin, minV, optNat, appendEls, elsOf, sliceSlV, sliceStrV, List.replicate, List.getElem?_append_left, List.getElem?_append_right, List.set_append_left, List.set_append_right, List.getElem?_set_self, List.getElem?_set_ne, hq_get0, hq_get, hq_get2, hq_get3, hp_get0, hp_get, hp_get2, hp_get3, hp_set0, hp_set, hp_set2, hp_set3, wr_0, wr_1, wr_2, wr_3, wr_4, wr_n1, lv, d6, d6', h40, e9, c1, c2, h0, e10, e11, e11', e12, e13, e13', e13'', e14, e15, e16, e18, e17, e17', e19, e20, hQ']
    · have c1 : decide ((0 : Int) ≤ mine) = false := dec_false h0
      simp [sf3, yld_some, exec_reg, exec_dreg, exec_seq, exec_cond, exec_block, exec_scope, exec_exit, exec_ret, exec_skip, exec_loop, ops_nil, ops_cons, ops_cons_gd, stages_nil, stages_cons_n, stages_cons_h, recheck, wantsOp, AV.same, sames, evalOp_p, evalOp_r, evalOp_a, evalOp_call, evalOp_callV, evalOp_store, evalOp_append, evalOp_clear, evalOp_mapUpdate, evalOp_delete, pP_move, pP_pick, pP_build, pP_nil_ptr, pP_nil_func, pP_bin, pP_eq, pP_neg, pP_inv, pP_not, pP_convInt, pP_convStr, pP_fieldAddr, pP_field, pP_indexAddr, pP_indexStr, pP_sliceStr, pP_sliceSl, pP_lenStr, pP_lenNil, pP_lenSl, pP_min, pP_max, pP_extract, pP_mkfn, bV_add, bV_sub, bV_mul, bV_quo, bV_rem, bV_and, bV_or, bV_xor, bV_andNot, bV_eql, bV_neq, bV_lss, bV_leq, bV_gtr, bV_geq, bV_shl, bV_shr, bV_str, eV_bool, eV_nn, eV_np, eV_pn, eV_snn, eV_sns, eV_ssn, eV_mnn, eV_mnm, eV_mmn, eV_fnn, eV_fnf, eV_ffn, eV_agg, rP_load, rP_lenNil, rP_str0, rdEl_K, rdK_row, aP_alloc, aP_box, aP_buildSlice, aP_makeSlice, aP_makeMap, aP_toBytes, hP_store, storeK_some, st_K, stK_row, stE_some, cells_agg, cells_bool, scalar_bool, cells_int, scalar_int, cells_str, scalar_str, cells_nilptr, scalar_nilptr, cells_ptr, scalar_ptr, cells_nilslice, scalar_nilslice, cells_slice, scalar_slice, cells_nilmap, scalar_nilmap, cells_map, scalar_map, cells_nilfunc, scalar_nilfunc, cells_func, scalar_func, eqCells, eqLeaf, run_toL, toL_some, ev_toL, getD_toL, put_toL, keep_toL, asc, fput_same, fput_ne, fbase_nil, fbase_cons, fkeep_nil, fkeep_cons, fzero, fnone, List.map_cons, List.map_nil, ev_lit, put_none, resVals, resVal, resOf, partV, fillA, putCells, fillEls, strBin, minV, optNat, appendEls, elsOf, sliceSlV, sliceStrV, List.replicate, List.getElem?_append_left, List.getElem?_append_right, List.set_append_left, List.set_append_right, List.getElem?_set_self, List.getElem?_set_ne, hq_get0, hq_get, hq_get2, hq_get3, hp_get0, hp_get, hp_get2, hp_get3, hp_set0, hp_set, hp_set2, hp_set3, wr_0, wr_1, wr_2, wr_3, wr_4, wr_n1, lv, d6, d6', h40, e9, c1, h0, e10, e11, e11', e12, e13, e13', e13'', e14, e15, e16, e18, e17, e17', e19, e20, hQ']
end Go.Proofs.Ytfkhdfnjlegnhaa.Fg
namespace Go.Proofs.Ytfkhdfnjlegnhaa.Pure
open Go Go.Eng
theorem FingerTells : LawOk Try.prog 3 F.ss3 := by
  refine ⟨Fg.fs0, Fg.ex0, Fg.fs0_ok, Fg.ex0_ok, fun vs h _ hv => ?_⟩
  simp only [F.ss3, HasVs, HasV, HasF, Has] at hv
  obtain ⟨_, _, rfl, ⟨me, ha, wme⟩, _, _, rfl, ⟨t, hb, _⟩, _, _, rfl, ⟨v, els, hz, hs, hbz, hm, he⟩, _, _, rfl, ⟨mine, ho, _⟩, rfl⟩ := hv
  cases ha
  cases hb
  cases hz
  cases ho
  have : ∃ L : List Int, els = Fg.pts L ∧ ∀ x ∈ L, Fg.In64 x := by
    clear hs hm hbz
    induction els with
    | nil => exact ⟨[], rfl, by simp⟩
    | cons e els ih =>
      obtain ⟨L, rfl, hL⟩ := ih (fun x hx => he x (List.mem_cons_of_mem _ hx))
      obtain ⟨n, rfl, hn⟩ := he e (List.mem_cons_self ..)
      refine ⟨n :: L, rfl, fun x hx => ?_⟩
      rcases List.mem_cons.1 hx with rfl | hx
      · have := wf_u64 hn; exact ⟨by omega, by omega⟩
      · exact hL x hx
  obtain ⟨L, rfl, hL⟩ := this
  exact Fg.tells_law hs (by have := wf_u64 wme; exact ⟨by omega, by omega⟩) hL
end Go.Proofs.Ytfkhdfnjlegnhaa.Pure
