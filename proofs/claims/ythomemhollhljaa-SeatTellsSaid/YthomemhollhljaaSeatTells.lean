/- Seat: SeatTells over the engine. -/
import Derived.Test.YthomemhollhljaaSeatF
set_option maxRecDepth 100000
set_option linter.unusedVariables false
set_option linter.unusedSimpArgs false
namespace Go.Proofs.Ythomemhollhljaa.St
open Go Go.Eng F Bk

theorem slOf_rds {h : H} {v : AV} {els : List (List AV)} (hs : SlOf h 1 v els) : RdS h 1 v els := by
  rcases hs with h | ⟨b, c, rfl, hc, hb⟩
  · exact .inl h
  · by_cases h0 : els = []
    · subst h0; exact .inr (.inl ⟨b, c, true, rfl, rfl⟩)
    · exact .inr (.inr ⟨b, c, true, els, false, false, rfl, hb h0, List.take_length, Nat.le_refl _⟩)
theorem rds_app {h k : H} {es : Nat} {v : AV} {L : List (List AV)} (o : RdS h es v L) : RdS (h ++ k) es v L := o.keep (Chg.app _ _ []) (by simp)
/-- All that is called, from the list on that is lent. -/
structure Run (kk : H) (T ls : AV) (TL : List Int) (id salt : Int) (m a b : AV) (g : Nat) (k1 k2 k3 k4 k5 k6 k7 k8 : H) : Prop where
  e10 : call fs0 ex0 10 [T] kk = some (m, k1)
  g0 : g = k1.length
  e11 : call fs0 ex0 11 [.int .i64 id, .int .i64 salt] (k1 ++ [bookB .nilslice .nilslice]) = some (a, k2)
  e11' : call fs0 ex0 11 [.int .i64 id, .int .i64 salt] k2 = some (b, k3)
  e12 : call fs0 ex0 12 [.ptr g 0 0, a] k3 = some (.tuple [], k4)
  e12' : call fs0 ex0 12 [.ptr g 0 0, b] k4 = some (.tuple [], k5)
  e13 : call fs0 ex0 13 [.int .i64 id, .int .i64 salt, m] k5 = some (pickA (sts id salt) TL, k6)
  e14 : call fs0 ex0 14 [.int .i64 id, .int .i64 salt, T] k6 = some (pickA (sts id salt) TL, k7)
  e18 : call fs0 ex0 18 [a, ls] k7 = some (.bool true, k7)
  e19 : call fs0 ex0 19 [m, T] k7 = some (.bool true, k7)
  e20 : call fs0 ex0 20 [.ptr g 0 0] k7 = some (.bool true, k8)
theorem own_pts {k : H} {b c : Nat} {L : List Int} {n : Nat} (hn : n = L.length) (hb : k[b]? = some (.row 1 (pts L) true true)) (hc : n ≤ c) : OwnE k 1 (.slice b 1 0 n c false) (pts L) := by
  subst hn
  exact .inr ⟨b, c, by rw [pts_len], hb, by rw [pts_len]; exact hc⟩
theorem run_all {kk : H} {T ls : AV} {TL : List Int} {id salt : Int} (hT : RdS kk 1 T (pts TL)) (hl : RdS kk 1 ls (pts (sts id salt))) (hTf : ∀ c ∈ foot T, TL ≠ [] → c < kk.length) (hlf : ∀ c ∈ foot ls, c < kk.length) (hlen : TL.length ≤ 1000) :
    ∃ m a b g k1 k2 k3 k4 k5 k6 k7 k8, Run kk T ls TL id salt m a b g k1 k2 k3 k4 k5 k6 k7 k8 := by
  have hsl := sts_len id salt
  obtain ⟨⟨m, k1⟩, e10, _, _, hr, hm, c1, f1⟩ := lent_call hT (pts_isPts _) (by rw [pts_len]; omega)
  cases hr
  obtain ⟨x2, e11, b2⟩ := seats_call id salt (k1 ++ [bookB .nilslice .nilslice])
  obtain ⟨x3, e11', b3⟩ := seats_call id salt ((k1 ++ [bookB .nilslice .nilslice]) ++ x2)
  generalize hk2 : (k1 ++ [bookB .nilslice .nilslice]) ++ x2 = k2 at *
  generalize hk3 : k2 ++ x3 = k3 at *
  have l1 := c1.1
  have lkB : (k1 ++ [bookB .nilslice .nilslice]).length = k1.length + 1 := by simp
  rw [lkB] at e11 b2
  have oa2 : OwnE k2 1 (.slice (k1.length + 1 + 7) 1 0 4 4 false) (pts (sts id salt)) := own_pts hsl.symm b2 (Nat.le_refl _)
  have ob3 : OwnE k3 1 (.slice (k2.length + 7) 1 0 4 4 false) (pts (sts id salt)) := own_pts hsl.symm b3 (Nat.le_refl _)
  have oa3 : OwnE k3 1 (.slice (k1.length + 1 + 7) 1 0 4 4 false) (pts (sts id salt)) := by rw [← hk3]; exact oa2.keep (Chg.app _ _ []) (by simp)
  have la := oa2.lt (k1.length + 1 + 7) (by simp [foot])
  have lb := ob3.lt (k2.length + 7) (by simp [foot])
  have bk0 : BkAt k3 k1.length .nilslice .nilslice [] [] (fun _ => pts (sts id salt)) := by
    have r0 : k3[k1.length]? = some (bookB .nilslice .nilslice) := by
      rw [← hk3]
      refine get_app ?_
      rw [← hk2]
      refine get_app ?_
      simp
    exact ⟨r0, .inl ⟨rfl, rfl⟩, .inl ⟨rfl, rfl⟩, rfl, by simp, by simp, ⟨by simp, by simp, by simp⟩, by simp [foot], by simp [foot], by simp [foot], by simp, by simp, by simp, by simp⟩
  generalize hna : AV.slice (k1.length + 1 + 7) 1 0 4 4 false = a at *
  generalize hnb : AV.slice (k2.length + 7) 1 0 4 4 false = b at *
  have fa : foot a = [k1.length + 1 + 7] := by rw [← hna]; rfl
  have fb : foot b = [k2.length + 7] := by rw [← hnb]; rfl
  have ips : IsPts (pts (sts id salt)) := pts_isPts _
  have lps : (pts (sts id salt)).length ≤ 50000 := by rw [pts_len, hsl]; omega
  obtain ⟨⟨w1, k4⟩, e12, pv, wv, w, _, hr, bk1, c4, fp, fw, fw'⟩ := points_call bk0 (by simp) oa3 ips lps (by rw [fa]; intro c hc; simp at hc; subst hc; simp [BkAt.mine, foot, feet]; omega) rfl
  cases hr
  have l4 := c4.1
  simp only [List.nil_append] at bk1
  have ob4 := ob3.keep c4 (by rw [fb]; intro c hc; simp at hc; subst hc; simp [foot]; omega)
  obtain ⟨⟨w2, k5⟩, e12', pv2, wv2, w3, _, hr, bk2, c5, fp2, fw2, fw2'⟩ := points_call bk1 (by simp) ob4 ips lps (by
    rw [fb]; intro c hc; simp at hc; subst hc
    simp only [BkAt.mine, feet, List.flatMap_cons, List.flatMap_nil, List.append_nil, fa, List.mem_cons, List.mem_append, List.not_mem_nil, or_false]
    rintro (h | ((h | h) | h) | h)
    · omega
    · have := fp _ h; omega
    · have := fw _ h; omega
    · omega
    · have := fw' _ h; omega) rfl
  cases hr
  have l5 := c5.1
  -- what is not touched
  have keepIt : ∀ {v : AV} {L : List (List AV)}, RdS k3 1 v L → (∀ c ∈ foot v, c ≠ k1.length ∧ c < k3.length) → RdS k5 1 v L := by
    intro v L o hf
    refine (o.keep c4 (fun c hc => ?_)).keep c5 (fun c hc => ?_)
    · have := hf c hc; simp [foot]; omega
    · have := hf c hc
      simp only [List.mem_cons, List.mem_append]
      rintro (h | h | h)
      · omega
      · have := fp c h; omega
      · have := fw c h; omega
  have c13 : Chg k1 k3 [] := by rw [← hk3, ← hk2]; exact ((Chg.app _ _ []).trans (Chg.app _ _ []) (by simp)).trans (Chg.app _ _ []) (by simp)
  have l13 := c13.1
  have hmlt : ∀ c ∈ foot m, c < k1.length := by
    obtain ⟨bm, cm, rfl, hb, _⟩ := hm
    intro c hc; simp [foot] at hc; subst hc; exact (List.getElem?_eq_some_iff.1 hb).1
  have hm3 := hm.keep c13 (by simp)
  have hm5 : Lent k5 m (pts TL) := by
    refine (hm3.keep c4 (fun c hc => ?_)).keep c5 (fun c hc => ?_)
    · have := hmlt c hc; simp [foot]; omega
    · have := hmlt c hc
      simp only [List.mem_cons, List.mem_append]
      rintro (h | h | h)
      · omega
      · have := fp c h; omega
      · have := fw c h; omega
  have c03 : Chg kk k3 [] := c1.trans c13 (by simp)
  have hT5 : RdS k5 1 T (pts TL) := by
    by_cases h0 : TL = []
    · subst h0
      rcases hT with ⟨rfl, _⟩ | ⟨bb, cc, xx, rfl, _⟩ | ⟨bb, cc, xx, els, wr, ap, rfl, _⟩
      · exact .inl ⟨rfl, rfl⟩
      · exact .inr (.inl ⟨bb, cc, xx, rfl, rfl⟩)
      · exact .inr (.inl ⟨bb, cc, xx, rfl, rfl⟩)
    · exact keepIt (hT.keep c03 (by simp)) (fun c hc => by have := hTf c hc h0; omega)
  have hl5 : RdS k5 1 ls (pts (sts id salt)) := keepIt (hl.keep c03 (by simp)) (fun c hc => by have := hlf c hc; omega)
  have l23 : k2.length ≤ k3.length := by rw [← hk3]; simp
  have ha5 : RdS k5 1 a (pts (sts id salt)) := keepIt oa3.grow.rds (by
    rw [fa]; intro c hc; simp at hc; subst hc; omega)
  obtain ⟨x6, e13⟩ := pick2 hm5.rds (by omega) id salt
  obtain ⟨x7, e14⟩ := rpick (rds_app (k := x6) hT5) (by omega) id salt
  obtain ⟨⟨_, _⟩, e18, hr⟩ := same_call (rds_app (k := x7) (rds_app (k := x6) ha5)) (rds_app (k := x7) (rds_app (k := x6) hl5)) ips (by omega)
  cases hr
  obtain ⟨⟨_, _⟩, e19, hr⟩ := stays_call ((hm5.keep (Chg.app _ x6 []) (by simp)).keep (Chg.app _ x7 []) (by simp)) (rds_app (k := x7) (rds_app (k := x6) hT5)) (pts_isPts _) (by rw [pts_len]; omega)
  cases hr
  have bk3 := (bk2.keep (Chg.app _ x6 []) (by simp)).keep (Chg.app _ x7 []) (by simp)
  obtain ⟨⟨w8, k8⟩, e20, hr⟩ := bk3.apart (by simp) (fun _ => ⟨ips, lps⟩)
  cases hr
  exact ⟨m, a, b, k1.length, k1, k2, k3, k4, k5, _, _, k8, ⟨e10, rfl, e11, e11', e12, e12', e13, e14, e18, e19, e20⟩⟩
theorem pickA_eq (ss L : List Int) : ∃ x y, pickA ss L = .tuple [.int .u64 x, .bool y] := by
  unfold pickA
  split
  · exact ⟨_, _, rfl⟩
  · exact ⟨_, _, rfl⟩
set_option maxHeartbeats 16000000 in
theorem tells_law {h : H} {v : AV} {L : List Int} (hv : SlOf h 1 v (pts L)) (a b id salt own : Int) : Yld (call fs0 ex0 3 [.int .u64 a, .int .u64 b, .int .i64 id, .int .i64 salt, v, .int .i64 own] h) fun r => r.1 = .bool true := by
  refine yld_shut fun Q hQ => ?_
  rw [call_eq fs0 ex0 (f := 3) (sf := sf3) rfl]
  have hQ' : ∀ k, Q (.bool true, k) := fun k => hQ _ rfl
  have hv0 := slOf_rds hv
  have lv := hv0.len
  rw [pts_len] at lv
  by_cases h60 : 60 < L.length
  · have d6 : decide ((60 : Int) < L.length) = true := dec_true (by omega)
    simp [sf3, yld_some, exec_reg, exec_dreg, exec_seq, exec_cond, exec_block, exec_scope, exec_exit, exec_ret, exec_skip, exec_loop, ops_nil, ops_cons, ops_cons_gd, stages_nil, stages_cons_n, stages_cons_h, recheck, wantsOp, AV.same, sames, evalOp_p, evalOp_r, evalOp_a, evalOp_call, evalOp_callV, evalOp_store, evalOp_append, evalOp_clear, evalOp_mapUpdate, evalOp_delete, pP_move, pP_pick, pP_build, pP_nil_ptr, pP_nil_func, pP_bin, pP_eq, pP_neg, pP_inv, pP_not, pP_convInt, pP_convStr, pP_fieldAddr, pP_field, pP_indexAddr, pP_indexStr, pP_sliceStr, pP_sliceSl, pP_lenStr, pP_lenNil, pP_lenSl, pP_min, pP_max, pP_extract, pP_mkfn, bV_add, bV_sub, bV_mul, bV_quo, bV_rem, bV_and, bV_or, bV_xor, bV_andNot, bV_eql, bV_neq, bV_lss, bV_leq, bV_gtr, bV_geq, bV_shl, bV_shr, bV_str, eV_bool, eV_nn, eV_np, eV_pn, eV_snn, eV_sns, eV_ssn, eV_mnn, eV_mnm, eV_mmn, eV_fnn, eV_fnf, eV_ffn, eV_agg, rP_load, rP_lenNil, rP_str0, rdEl_K, rdK_row, aP_alloc, aP_box, aP_buildSlice, aP_makeSlice, aP_makeMap, aP_toBytes, hP_store, storeK_some, st_K, stK_row, stE_some, cells_agg, cells_bool, scalar_bool, cells_int, scalar_int, cells_str, scalar_str, cells_nilptr, scalar_nilptr, cells_ptr, scalar_ptr, cells_nilslice, scalar_nilslice, cells_slice, scalar_slice, cells_nilmap, scalar_nilmap, cells_map, scalar_map, cells_nilfunc, scalar_nilfunc, cells_func, scalar_func, eqCells, eqLeaf, run_toL, toL_some, ev_toL, getD_toL, put_toL, keep_toL, asc, fput_same, fput_ne, fbase_nil, fbase_cons, fkeep_nil, fkeep_cons, fzero, fnone, List.map_cons, List.map_nil, ev_lit, put_none, resVals, resVal, resOf, partV, fillA, putCells, fillEls, strBin, minV, optNat, appendEls, elsOf, sliceSlV, sliceStrV, List.replicate, List.getElem?_append_left, List.getElem?_append_right, List.set_append_left, List.set_append_right, List.getElem?_set_self, List.getElem?_set_ne, hq_get0, hq_get, hq_get2, hq_get3, hp_get0, hp_get, hp_get2, hp_get3, hp_set0, hp_set, hp_set2, hp_set3, wr_0, wr_1, wr_2, wr_3, wr_4, wr_n1, lv, d6, h60, e0_8, ex0, hQ']
  have d6 : decide ((60 : Int) < L.length) = false := dec_false (by omega)
  have d6' : decide (60 < L.length) = false := dec_false h60
  obtain ⟨k, e9, hs⟩ := seats9_call id salt h
  have hsl := sts_len id salt
  have hla : (pts (sts id salt)).length = 4 := by rw [pts_len, hsl]
  have hlb := (List.getElem?_eq_some_iff.1 hs).1
  have hls : RdS (h ++ k) 1 (.slice (h.length + 7) 1 0 4 4 false) (pts (sts id salt)) := .inr <| .inr ⟨h.length + 7, 4, false, pts (sts id salt), true, true, by rw [hla], hs, by rw [List.take_length], Nat.le_refl _⟩
  have hfar : (far a b == IntKind.u64.wrap (b - a)) = true := by unfold far; simp
  by_cases hown : 0 ≤ own ∧ own < 4
  · obtain ⟨n, rfl⟩ : ∃ n : Nat, own = n := ⟨own.toNat, by omega⟩
    have hn : n < 4 := by omega
    have hn2 : n < (sts id salt).length := by omega
    have c1 : decide ((0 : Int) ≤ n) = true := dec_true (by omega)
    have c2 : decide ((n : Int) < 4) = true := dec_true (by omega)
    obtain ⟨is, gs⟩ := hls.idx (i := n) (by omega)
    rw [pts_get hn2] at gs
    simp only [slB] at is gs
    generalize hx : (sts id salt)[n] = x at gs
    have hv1 : RdS (h ++ k ++ [Blk.row 1 [[.int .u64 x]] true true]) 1 v (pts L) := rds_app (rds_app hv0)
    obtain ⟨c, k1, ea, o1, ch1, f1⟩ := nil_append hv1 (pts_scalar (pts_isPts L)) (by rw [pts_len]; omega)
    have hb1 := ch1.2 (h ++ k).length (.row 1 [[.int .u64 x]] true true) (by simp) (by simp)
    have gs1 : rdK n k1[h.length + 7]? = some [.int .u64 x] := by
      rw [ch1.2 _ _ (by simp) (get_app hs)]
      have gs' := gs
      rw [hs] at gs'
      exact gs'
    obtain ⟨c2', k2, eb, o2, ch2, f2⟩ := ownE_append o1 (x := .slice (h ++ k).length 1 0 1 1 true) (X := [[.int .u64 x]]) (.inr <| .inr ⟨(h ++ k).length, 1, true, [[.int .u64 x]], true, true, rfl, hb1, rfl, by simp⟩) (by simp) (by simp [AV.scalar]) (by rw [pts_len]; simp; omega)
    have hT : RdS k2 1 c2' (pts (L ++ [x])) := by
      have := o2.grow.rds
      simpa [pts] using this
    have hl2 : RdS k2 1 (.slice (h.length + 7) 1 0 4 4 false) (pts (sts id salt)) := by
      refine ((rds_app hls).keep ch1 (by simp)).keep ch2 (fun z hz hm => ?_)
      have h1 := f1 z hm
      simp only [foot, List.mem_singleton] at hz
      subst hz
      simp only [List.length_append] at h1 hlb
      omega
    have l1 := ch1.1
    have l2 := ch2.1
    obtain ⟨m, a', b', g, k1', k2', k3', k4', k5', k6', k7', k8', R⟩ := run_all hT hl2 (fun z hz _ => o2.lt z hz) (fun z hz => by
      simp only [foot, List.mem_singleton] at hz
      subst hz
      simp only [List.length_append] at l1 l2 hlb
      omega) (by simp; omega)
    obtain ⟨e10, rfl, e11, e11', e12, e12', e13, e14, e18, e19, e20⟩ := R
    obtain ⟨px, py, hpk⟩ := pickA_eq (sts id salt) (L ++ [x])
    rw [hpk] at e13 e14
    unfold bookB at e11
    generalize hhk : h ++ k = hk at *
    simp [sf3, yld_some, exec_reg, exec_dreg, exec_seq, exec_cond, exec_block, exec_scope, exec_exit, exec_ret, exec_skip, exec_loop, ops_nil, ops_cons, ops_cons_gd, stages_nil, stages_cons_n, stages_cons_h, recheck, wantsOp, AV.same, sames, evalOp_p, evalOp_r, evalOp_a, evalOp_call, evalOp_callV, evalOp_store, evalOp_append, evalOp_clear, evalOp_mapUpdate, evalOp_delete, pP_move, pP_pick, pP_build, pP_nil_ptr, pP_nil_func, pP_bin, pP_eq, pP_neg, pP_inv, pP_not, pP_convInt, pP_convStr, pP_fieldAddr, pP_field, pP_indexAddr, pP_indexStr, pP_sliceStr, pP_sliceSl, pP_lenStr, pP_lenNil, pP_lenSl, pP_min, pP_max, pP_extract, pP_mkfn, bV_add, bV_sub, bV_mul, bV_quo, bV_rem, bV_and, bV_or, bV_xor, bV_andNot, bV_eql, bV_neq, bV_lss, bV_leq, bV_gtr, bV_geq, bV_shl, bV_shr, bV_str, eV_bool, eV_nn, eV_np, eV_pn, eV_snn, eV_sns, eV_ssn, eV_mnn, eV_mnm, eV_mmn, eV_fnn, eV_fnf, eV_ffn, eV_agg, rP_load, rP_lenNil, rP_str0, rdEl_K, rdK_row, aP_alloc, aP_box, aP_buildSlice, aP_makeSlice, aP_makeMap, aP_toBytes, hP_store, storeK_some, st_K, stK_row, stE_some, cells_agg, cells_bool, scalar_bool, cells_int, scalar_int, cells_str, scalar_str, cells_nilptr, scalar_nilptr, cells_ptr, scalar_ptr, cells_nilslice, scalar_nilslice, cells_slice, scalar_slice, cells_nilmap, scalar_nilmap, cells_map, scalar_map, cells_nilfunc, scalar_nilfunc, cells_func, scalar_func, eqCells, eqLeaf, run_toL, toL_some, ev_toL, getD_toL, put_toL, keep_toL, asc, fput_same, fput_ne, fbase_nil, fbase_cons, fkeep_nil, fkeep_cons, fzero, fnone, List.map_cons, List.map_nil, ev_lit, put_none, resVals, resVal, resOf, partV, fillA, putCells, fillEls, strBin, minV, optNat, appendEls, elsOf, sliceSlV, sliceStrV, List.replicate, List.getElem?_append_left, List.getElem?_append_right, List.set_append_left, List.set_append_right, List.getElem?_set_self, List.getElem?_set_ne, hq_get0, hq_get, hq_get2, hq_get3, hp_get0, hp_get, hp_get2, hp_get3, hp_set0, hp_set, hp_set2, hp_set3, wr_0, wr_1, wr_2, wr_3, wr_4, wr_n1, lv, d6, d6', h60, e0_8, e0_15, e0_17, ex0, e9, c1, c2, hn, is, gs, gs1, ea, eb, e10, e11, e11', e12, e12', e13, e14, mix16, e18, e19, e20, hfar, hQ']
  · have hT : RdS (h ++ k) 1 v (pts L) := rds_app hv0
    have hTf : ∀ z ∈ foot v, L ≠ [] → z < (h ++ k).length := by
      intro z hz h0
      rcases hv with ⟨rfl, _⟩ | ⟨bb, cc, rfl, _, hb⟩
      · simp [foot] at hz
      · simp only [foot, List.mem_singleton] at hz
        subst hz
        have := (List.getElem?_eq_some_iff.1 (hb (by intro h; apply h0; cases L with | nil => rfl | cons y l => simp [pts] at h))).1
        simp; omega
    obtain ⟨m, a', b', g, k1', k2', k3', k4', k5', k6', k7', k8', R⟩ := run_all hT hls hTf (fun z hz => by
      simp only [foot, List.mem_singleton] at hz
      subst hz
      exact hlb) (by omega)
    obtain ⟨e10, rfl, e11, e11', e12, e12', e13, e14, e18, e19, e20⟩ := R
    obtain ⟨px, py, hpk⟩ := pickA_eq (sts id salt) L
    rw [hpk] at e13 e14
    unfold bookB at e11
    generalize hhk : h ++ k = hk at *
    by_cases h0 : 0 ≤ own
    · have c1 : decide ((0 : Int) ≤ own) = true := dec_true h0
      have c2 : decide (own < 4) = false := dec_false (by omega)
      simp [sf3, yld_some, exec_reg, exec_dreg, exec_seq, exec_cond, exec_block, exec_scope, exec_exit, exec_ret, exec_skip, exec_loop, ops_nil, ops_cons, ops_cons_gd, stages_nil, stages_cons_n, stages_cons_h, recheck, wantsOp, AV.same, sames, evalOp_p, evalOp_r, evalOp_a, evalOp_call, evalOp_callV, evalOp_store, evalOp_append, evalOp_clear, evalOp_mapUpdate, evalOp_delete, pP_move, pP_pick, pP_build, pP_nil_ptr, pP_nil_func, pP_bin, pP_eq, pP_neg, pP_inv, pP_not, pP_convInt, pP_convStr, pP_fieldAddr, pP_field, pP_indexAddr, pP_indexStr, pP_sliceStr, pP_sliceSl, pP_lenStr, pP_lenNil, pP_lenSl, pP_min, pP_max, pP_extract, pP_mkfn, bV_add, bV_sub, bV_mul, bV_quo, bV_rem, bV_and, bV_or, bV_xor, bV_andNot, bV_eql, bV_neq, bV_lss, bV_leq, bV_gtr, bV_geq, bV_shl, bV_shr, bV_str, eV_bool, eV_nn, eV_np, eV_pn, eV_snn, eV_sns, eV_ssn, eV_mnn, eV_mnm, eV_mmn, eV_fnn, eV_fnf, eV_ffn, eV_agg, rP_load, rP_lenNil, rP_str0, rdEl_K, rdK_row, aP_alloc, aP_box, aP_buildSlice, aP_makeSlice, aP_makeMap, aP_toBytes, hP_store, storeK_some, st_K, stK_row, stE_some, cells_agg, cells_bool, scalar_bool, cells_int, scalar_int, cells_str, scalar_str, cells_nilptr, scalar_nilptr, cells_ptr, scalar_ptr, cells_nilslice, scalar_nilslice, cells_slice, scalar_slice, cells_nilmap, scalar_nilmap, cells_map, scalar_map, cells_nilfunc, scalar_nilfunc, cells_func, scalar_func, eqCells, eqLeaf, run_toL, toL_some, ev_toL, getD_toL, put_toL, keep_toL, asc, fput_same, fput_ne, fbase_nil, fbase_cons, fkeep_nil, fkeep_cons, fzero, fnone, List.map_cons, List.map_nil, ev_lit, put_none, resVals, resVal, resOf, partV, fillA, putCells, fillEls, strBin, minV, optNat, appendEls, elsOf, sliceSlV, sliceStrV, List.replicate, List.getElem?_append_left, List.getElem?_append_right, List.set_append_left, List.set_append_right, List.getElem?_set_self, List.getElem?_set_ne, hq_get0, hq_get, hq_get2, hq_get3, hp_get0, hp_get, hp_get2, hp_get3, hp_set0, hp_set, hp_set2, hp_set3, wr_0, wr_1, wr_2, wr_3, wr_4, wr_n1, lv, d6, d6', h60, e0_8, e0_15, e0_17, ex0, e9, c1, c2, h0, e10, e11, e11', e12, e12', e13, e14, mix16, e18, e19, e20, hfar, hQ']
    · have c1 : decide ((0 : Int) ≤ own) = false := dec_false h0
      simp [sf3, yld_some, exec_reg, exec_dreg, exec_seq, exec_cond, exec_block, exec_scope, exec_exit, exec_ret, exec_skip, exec_loop, ops_nil, ops_cons, ops_cons_gd, stages_nil, stages_cons_n, stages_cons_h, recheck, wantsOp, AV.same, sames, evalOp_p, evalOp_r, evalOp_a, evalOp_call, evalOp_callV, evalOp_store, evalOp_append, evalOp_clear, evalOp_mapUpdate, evalOp_delete, pP_move, pP_pick, pP_build, pP_nil_ptr, pP_nil_func, pP_bin, pP_eq, pP_neg, pP_inv, pP_not, pP_convInt, pP_convStr, pP_fieldAddr, pP_field, pP_indexAddr, pP_indexStr, pP_sliceStr, pP_sliceSl, pP_lenStr, pP_lenNil, pP_lenSl, pP_min, pP_max, pP_extract, pP_mkfn, bV_add, bV_sub, bV_mul, bV_quo, bV_rem, bV_and, bV_or, bV_xor, bV_andNot, bV_eql, bV_neq, bV_lss, bV_leq, bV_gtr, bV_geq, bV_shl, bV_shr, bV_str, eV_bool, eV_nn, eV_np, eV_pn, eV_snn, eV_sns, eV_ssn, eV_mnn, eV_mnm, eV_mmn, eV_fnn, eV_fnf, eV_ffn, eV_agg, rP_load, rP_lenNil, rP_str0, rdEl_K, rdK_row, aP_alloc, aP_box, aP_buildSlice, aP_makeSlice, aP_makeMap, aP_toBytes, hP_store, storeK_some, st_K, stK_row, stE_some, cells_agg, cells_bool, scalar_bool, cells_int, scalar_int, cells_str, scalar_str, cells_nilptr, scalar_nilptr, cells_ptr, scalar_ptr, cells_nilslice, scalar_nilslice, cells_slice, scalar_slice, cells_nilmap, scalar_nilmap, cells_map, scalar_map, cells_nilfunc, scalar_nilfunc, cells_func, scalar_func, eqCells, eqLeaf, run_toL, toL_some, ev_toL, getD_toL, put_toL, keep_toL, asc, fput_same, fput_ne, fbase_nil, fbase_cons, fkeep_nil, fkeep_cons, fzero, fnone, List.map_cons, List.map_nil, ev_lit, put_none, resVals, resVal, resOf, partV, fillA, putCells, fillEls, strBin, minV, optNat, appendEls, elsOf, sliceSlV, sliceStrV, List.replicate, List.getElem?_append_left, List.getElem?_append_right, List.set_append_left, List.set_append_right, List.getElem?_set_self, List.getElem?_set_ne, hq_get0, hq_get, hq_get2, hq_get3, hp_get0, hp_get, hp_get2, hp_get3, hp_set0, hp_set, hp_set2, hp_set3, wr_0, wr_1, wr_2, wr_3, wr_4, wr_n1, lv, d6, d6', h60, e0_8, e0_15, e0_17, ex0, e9, c1, h0, e10, e11, e11', e12, e12', e13, e14, mix16, e18, e19, e20, hfar, hQ']
end Go.Proofs.Ythomemhollhljaa.St
namespace Go.Proofs.Ythomemhollhljaa.Pure
open Go Go.Eng
theorem SeatTells : LawOk Try.prog 3 F.ss3 := by
  refine ⟨St.fs0, St.ex0, St.fs0_ok, St.ex0_ok, fun vs h _ hv => ?_⟩
  simp only [F.ss3, HasVs, HasV, HasF, Has] at hv
  obtain ⟨_, _, rfl, ⟨a, ha, _⟩, _, _, rfl, ⟨b, hb, _⟩, _, _, rfl, ⟨id, hx, _⟩, _, _, rfl, ⟨salt, hy, _⟩, _, _, rfl, ⟨v, els, hz, hs, hbz, hm, he⟩, _, _, rfl, ⟨own, ho, _⟩, rfl⟩ := hv
  cases ha
  cases hb
  cases hx
  cases hy
  cases hz
  cases ho
  have : ∃ L : List Int, els = St.pts L := by
    clear hs hm hbz
    induction els with
    | nil => exact ⟨[], rfl⟩
    | cons e els ih =>
      obtain ⟨L, rfl⟩ := ih (fun x hx => he x (List.mem_cons_of_mem _ hx))
      obtain ⟨n, rfl, _⟩ := he e (List.mem_cons_self ..)
      exact ⟨n :: L, rfl⟩
  obtain ⟨L, rfl⟩ := this
  exact St.tells_law hs a b id salt own
end Go.Proofs.Ythomemhollhljaa.Pure
