/- Pack: PackBack over the engine. -/
import Derived.Test.YtnfdgbapionojaaPackLong
set_option maxRecDepth 100000
set_option linter.unusedVariables false
set_option linter.unusedSimpArgs false
namespace Go.Proofs.Ytnfdgbapionojaa.Pk
open Go Go.Eng F

theorem dg_nat (n i : Nat) : (dg (n : Int) i).toNat = n / 2 ^ (8 * i) % 256 := by
  have h1 : (n : Int).fdiv (2 ^ (8 * i)) = ((n / 2 ^ (8 * i) : Nat) : Int) := by
    rw [Int.fdiv_eq_ediv_of_nonneg _ (by exact_mod_cast Nat.zero_le _)]
    rw [Int.natCast_ediv]; norm_cast
  unfold dg
  rw [h1]
  generalize n / 2 ^ (8 * i) = m
  have hw : IntKind.u8.wrap (m : Int) = ((m % 256 : Nat) : Int) := by
    simp only [IntKind.wrap, IntKind.bits, IntKind.signed, IntKind.min, IntKind.max]
    simp
  rw [hw]
  simp
  omega
theorem num_back (n : Nat) (t : List UInt8) (hn : n ≤ 65535) : Rd.num ⟨numS (n : Int) ++ t, false⟩ = (n, ⟨t, false⟩) := by
  have hw : IntKind.u64.wrap (n : Int) = n := wrap_u64 (by omega) (by omega)
  have h1 := dg_nat n 1
  have h0 := dg_nat n 0
  simp only [Nat.mul_one, Nat.mul_zero, Nat.pow_zero, Nat.div_one] at h0 h1
  have hv : val [dg (n : Int) 1, dg (n : Int) 0] = n := by
    simp only [val, List.foldl, h0, h1]
    omega
  have ht : ¬ (t.length + 1 + 1 < 2) := by omega
  simp [Rd.num, Rd.number, Rd.take, numS, hw, hv, ht]
theorem wide_back (n : Nat) (t : List UInt8) (hn : n < 18446744073709551616) : Rd.wide ⟨wideS (n : Int) ++ t, false⟩ = (n, ⟨t, false⟩) := by
  unfold wideS
  have h0 := dg_nat n 0
  have h1 := dg_nat n 1
  have h2 := dg_nat n 2
  have h3 := dg_nat n 3
  have h4 := dg_nat n 4
  have h5 := dg_nat n 5
  have h6 := dg_nat n 6
  have h7 := dg_nat n 7
  generalize dg (n : Int) 0 = d0 at *
  generalize dg (n : Int) 1 = d1 at *
  generalize dg (n : Int) 2 = d2 at *
  generalize dg (n : Int) 3 = d3 at *
  generalize dg (n : Int) 4 = d4 at *
  generalize dg (n : Int) 5 = d5 at *
  generalize dg (n : Int) 6 = d6 at *
  generalize dg (n : Int) 7 = d7 at *
  have hv : val [d7, d6, d5, d4, d3, d2, d1, d0] = n := by
    simp only [val, List.foldl, h0, h1, h2, h3, h4, h5, h6, h7]
    omega
  have ht : ¬ (t.length + 1 + 1 + 1 + 1 + 1 + 1 + 1 + 1 < 8) := by omega
  simp [Rd.wide, Rd.number, Rd.take, hv, ht]

/-- What a round writes. -/
def rnd (L : List Int) (S : List (List UInt8)) (W : List Nat) (i : Nat) : List UInt8 :=
  (match L[i]? with | some v => numS v | none => []) ++ ((match S[i]? with | some s => textS s | none => []) ++ (match W[i]? with | some w => wideS (w : Int) | none => []))
/-- What the last n rounds write. -/
def tl (L : List Int) (S : List (List UInt8)) (W : List Nat) : Nat → List UInt8
  | 0 => []
  | n + 1 => rnd L S W (29 - n) ++ tl L S W n
theorem tl_at (L : List Int) (S : List (List UInt8)) (W : List Nat) {i : Nat} (hi : i < 30) : tl L S W (30 - i) = rnd L S W i ++ tl L S W (30 - (i + 1)) := by
  have h1 : 30 - i = (29 - i) + 1 := by omega
  have h2 : 29 - (29 - i) = i := by omega
  have h3 : 30 - (i + 1) = 29 - i := by omega
  rw [h1, tl, h2, h3]
def slB : AV → Nat
  | .slice b _ _ _ _ _ => b
  | _ => 0
/-- A slice of scalars that is read. -/
structure Arr (h : H) (v : AV) {α : Type} (f : α → AV) (L : List α) : Prop where
  len : evalP .lenSl [v] = some (.int .i64 (L.length : Nat))
  idx : ∀ i : Nat, i < L.length → evalP (.indexAddr 1) [v, .int .i64 (i : Nat)] = some (.ptr (slB v) i 0)
  get : ∀ i : Nat, ∀ hi : i < L.length, rdK i h[slB v]? = some [f L[i]]
  low : L ≠ [] → slB v < h.length
theorem Arr.more {h : H} {v : AV} {α : Type} {f : α → AV} {L : List α} (a : Arr h v f L) (k : H) : Arr (h ++ k) v f L := by
  refine ⟨a.len, a.idx, fun i hi => ?_, fun hL => ?_⟩
  · have hl : slB v < h.length := a.low (by rintro rfl; simp at hi)
    rw [List.getElem?_append_left hl]; exact a.get i hi
  · have := a.low hL
    simp; omega
theorem arr_of {h : H} {v : AV} {α : Type} {f : α → AV} {L : List α} (hs : SlOf h 1 v (L.map fun x => [f x])) : Arr h v f L := by
  rcases hs with ⟨rfl, he⟩ | ⟨b, c, rfl, hc, hb⟩
  · have : L = [] := by cases L with
      | nil => rfl
      | cons a l => simp at he
    subst this
    exact ⟨rfl, fun i hi => by simp at hi, fun i hi => by simp at hi, fun hn => absurd rfl hn⟩
  · refine ⟨by simp [pP_lenSl], fun i hi => ?_, fun i hi => ?_, fun hL => ?_⟩
    · rw [pP_indexAddr]
      have h1 : (0 : Int) ≤ i := by omega
      have h2 : (i : Int) < ((L.map fun x => [f x]).length : Nat) := by simp; omega
      simp only [h1, h2, and_self, if_true, slB]
      simp
    · have hL : (L.map fun x => [f x]) ≠ [] := by rintro he; simp at he; subst he; simp at hi
      simp only [slB]
      rw [hb hL, rdK_row]
      simp [hi]
    · have hL : (L.map fun x => [f x]) ≠ [] := by simpa using hL
      exact (List.getElem?_eq_some_iff.1 (hb hL)).1
theorem ints_of {h : H} {k : IntKind} : ∀ (els : List (List AV)), (∀ x ∈ els, Has h (.int k) x) → ∃ L : List Int, els = L.map (fun n => [AV.int k n]) ∧ ∀ n ∈ L, (Lit.int k n).wf = true
  | [], _ => ⟨[], rfl, by simp⟩
  | x :: l, hh => by
    obtain ⟨L, h1, h2⟩ := ints_of l fun y hy => hh y (by simp [hy])
    have h3 := hh x (by simp)
    simp only [Has] at h3
    obtain ⟨n, rfl, hn⟩ := h3
    exact ⟨n :: L, by rw [h1]; rfl, by simpa using ⟨hn, h2⟩⟩
theorem strs_of {h : H} : ∀ (els : List (List AV)), (∀ x ∈ els, Has h .str x) → ∃ L : List (List UInt8), els = L.map (fun n => [AV.str n]) ∧ ∀ n ∈ L, n.length ≤ 140737488351232
  | [], _ => ⟨[], rfl, by simp⟩
  | x :: l, hh => by
    obtain ⟨L, h1, h2⟩ := strs_of l fun y hy => hh y (by simp [hy])
    have h3 := hh x (by simp)
    simp only [Has] at h3
    obtain ⟨n, rfl, hn⟩ := h3
    exact ⟨n :: L, by rw [h1]; rfl, by simpa using ⟨hn, h2⟩⟩

theorem nats_of : ∀ (W : List Int), (∀ n ∈ W, (Lit.int .u64 n).wf = true) → ∃ W' : List Nat, W = W'.map (fun n : Nat => (n : Int)) ∧ ∀ n ∈ W', n < 18446744073709551616
  | [], _ => ⟨[], rfl, by simp⟩
  | x :: l, hh => by
    obtain ⟨L, h1, h2⟩ := nats_of l fun y hy => hh y (by simp [hy])
    have h3 := hh x (by simp)
    simp [Lit.wf, IntKind.min, IntKind.max, IntKind.signed, IntKind.bits] at h3
    refine ⟨x.toNat :: L, ?_, ?_⟩
    · rw [List.map_cons, ← h1]; congr 1; omega
    · intro n hn
      rcases List.mem_cons.1 hn with rfl | hn
      · omega
      · exact h2 n hn
theorem tl_len (L : List Int) (S : List (List UInt8)) (W : List Nat) (hso : ∀ j s, j < 30 → S[j]? = some s → s.length ≤ 255) : ∀ n, n ≤ 30 → (tl L S W n).length ≤ 266 * n
  | 0, _ => Nat.le_refl _
  | n + 1, hn => by
    have ih := tl_len L S W hso n (by omega)
    have hr : (rnd L S W (29 - n)).length ≤ 266 := by
      unfold rnd
      have h0 : (match L[29 - n]? with | some v => numS v | none => []).length ≤ 2 := by cases L[29 - n]? <;> simp [numS]
      have h1 : (match S[29 - n]? with | some v => textS v | none => []).length ≤ 256 := by
        cases hs : S[29 - n]? with
        | none => simp
        | some s => have := hso _ s (by omega) hs; simp [textS]; omega
      have h2 : (match W[29 - n]? with | some v => wideS (v : Int) | none => []).length ≤ 8 := by cases W[29 - n]? <;> simp [wideS]
      simp only [List.length_append]; omega
    simp only [tl, List.length_append]; omega
theorem rd17 (h : H) (n : Nat) (t : List UInt8) (hn : n ≤ 65535) (ht : (numS (n : Int) ++ t).length ≤ 281474976710656) : call fs1 ex1 17 [.ptr h.length 0 0] (h ++ [Rd.blk ⟨numS (n : Int) ++ t, false⟩]) = some (.int .i64 (n : Nat), h ++ [Rd.blk ⟨t, false⟩]) := by
  have hr : rdOf (h ++ [Rd.blk ⟨numS (n : Int) ++ t, false⟩]) h.length = some ⟨numS (n : Int) ++ t, false⟩ := rdOf_eq (by simp [Rd.blk])
  rw [e1_17]
  simp only [exR, hr, ht, if_true, num_back n t hn]
  simp
theorem rd19 (h : H) (s : List UInt8) (t : List UInt8) (hn : s.length ≤ 255) (ht : (textS s ++ t).length ≤ 281474976710656) : call fs1 ex1 19 [.ptr h.length 0 0] (h ++ [Rd.blk ⟨textS s ++ t, false⟩]) = some (.str s, h ++ [Rd.blk ⟨t, false⟩]) := by
  have hr : rdOf (h ++ [Rd.blk ⟨textS s ++ t, false⟩]) h.length = some ⟨textS s ++ t, false⟩ := rdOf_eq (by simp [Rd.blk])
  rw [e1_19]
  simp only [exR, hr, ht, if_true, text_back s t hn]
  simp
theorem rd21 (h : H) (n : Nat) (t : List UInt8) (hn : n < 18446744073709551616) (ht : (wideS (n : Int) ++ t).length ≤ 281474976710656) : call fs1 ex1 21 [.ptr h.length 0 0] (h ++ [Rd.blk ⟨wideS (n : Int) ++ t, false⟩]) = some (.int .u64 (n : Nat), h ++ [Rd.blk ⟨t, false⟩]) := by
  have hr : rdOf (h ++ [Rd.blk ⟨wideS (n : Int) ++ t, false⟩]) h.length = some ⟨wideS (n : Int) ++ t, false⟩ := rdOf_eq (by simp [Rd.blk])
  rw [e1_21]
  simp only [exR, hr, ht, if_true, wide_back n t hn]
  simp
set_option maxHeartbeats 8000000 in
theorem back_law (v0 v1 v2 : AV) (L : List Int) (S : List (List UInt8)) (W : List Nat) (h : H) (aL : Arr h v0 (fun n => .int .i64 n) L) (aS : Arr h v1 AV.str S) (aW : Arr h v2 (fun n : Nat => .int .u64 n) W)
    (hW : ∀ n ∈ W, n < 18446744073709551616) (hS : ∀ s ∈ S, s.length ≤ 140737488351232) : Yld (call fs1 ex1 4 [v0, v1, v2] h) fun r => r.1 = .bool true := by
  refine yld_shut fun Q hQ => ?_
  rw [call_eq fs1 ex1 (f := 4) (sf := sf4) rfl]
  have hQ' : ∀ k, Q (.bool true, k) := fun k => hQ _ rfl
  have l0 := aL.len
  have l1 := aS.len
  have l2 := aW.len
  by_cases h1 : 30 < L.length
  · have d1 : decide ((30 : Int) < L.length) = true := dec_true (by omega)
    simp [sf4, yld_some, exec_reg, exec_dreg, exec_seq, exec_cond, exec_block, exec_scope, exec_exit, exec_ret, exec_skip, exec_loop, ops_nil, ops_cons, ops_cons_gd, stages_nil, stages_cons_n, stages_cons_h, recheck, wantsOp, AV.same, sames, evalOp_p, evalOp_r, evalOp_a, evalOp_call, evalOp_callV, evalOp_store, evalOp_append, evalOp_clear, evalOp_mapUpdate, evalOp_delete, pP_move, pP_pick, pP_build, pP_nil_ptr, pP_nil_func, pP_bin, pP_eq, pP_neg, pP_inv, pP_not, pP_convInt, pP_convStr, pP_fieldAddr, pP_field, pP_indexAddr, pP_indexStr, pP_sliceStr, pP_sliceSl, pP_lenStr, pP_lenNil, pP_lenSl, pP_min, pP_max, pP_extract, pP_mkfn, bV_add, bV_sub, bV_mul, bV_quo, bV_rem, bV_and, bV_or, bV_xor, bV_andNot, bV_eql, bV_neq, bV_lss, bV_leq, bV_gtr, bV_geq, bV_shl, bV_shr, bV_str, eV_bool, eV_nn, eV_np, eV_pn, eV_snn, eV_sns, eV_ssn, eV_mnn, eV_mnm, eV_mmn, eV_fnn, eV_fnf, eV_ffn, eV_agg, rP_load, rP_lenNil, rP_str0, rdEl_K, rdK_row, aP_alloc, aP_box, aP_buildSlice, aP_makeSlice, aP_makeMap, aP_toBytes, hP_store, storeK_some, st_K, stK_row, stE_some, cells_agg, cells_bool, scalar_bool, cells_int, scalar_int, cells_str, scalar_str, cells_nilptr, scalar_nilptr, cells_ptr, scalar_ptr, cells_nilslice, scalar_nilslice, cells_slice, scalar_slice, cells_nilmap, scalar_nilmap, cells_map, scalar_map, cells_nilfunc, scalar_nilfunc, cells_func, scalar_func, eqCells, eqLeaf, run_toL, toL_some, ev_toL, getD_toL, put_toL, keep_toL, asc, fput_same, fput_ne, fbase_nil, fbase_cons, fkeep_nil, fkeep_cons, fzero, fnone, List.map_cons, List.map_nil, ev_lit, put_none, resVals, resVal, resOf, partV, fillA, putCells, fillEls, strBin, minV, optNat, appendEls, elsOf, sliceSlV, sliceStrV, List.replicate, List.getElem?_append_left, List.getElem?_append_right, List.set_append_left, List.set_append_right, List.getElem?_set_self, List.getElem?_set_ne, hq_get0, hq_get, hq_get2, hq_get3, hp_get0, hp_get, hp_get2, hp_get3, hp_set0, hp_set, hp_set2, hp_set3, wr_0, wr_1, wr_2, wr_3, wr_4, wr_n1, e1_9, ex0, d1, h1, hQ', l0, l1, l2]
  have d1 : decide ((30 : Int) < L.length) = false := dec_false (by omega)
  have d1' : decide (30 < L.length) = false := dec_false (by omega)
  by_cases h2 : 30 < S.length
  · have d2 : decide ((30 : Int) < S.length) = true := dec_true (by omega)
    simp [sf4, yld_some, exec_reg, exec_dreg, exec_seq, exec_cond, exec_block, exec_scope, exec_exit, exec_ret, exec_skip, exec_loop, ops_nil, ops_cons, ops_cons_gd, stages_nil, stages_cons_n, stages_cons_h, recheck, wantsOp, AV.same, sames, evalOp_p, evalOp_r, evalOp_a, evalOp_call, evalOp_callV, evalOp_store, evalOp_append, evalOp_clear, evalOp_mapUpdate, evalOp_delete, pP_move, pP_pick, pP_build, pP_nil_ptr, pP_nil_func, pP_bin, pP_eq, pP_neg, pP_inv, pP_not, pP_convInt, pP_convStr, pP_fieldAddr, pP_field, pP_indexAddr, pP_indexStr, pP_sliceStr, pP_sliceSl, pP_lenStr, pP_lenNil, pP_lenSl, pP_min, pP_max, pP_extract, pP_mkfn, bV_add, bV_sub, bV_mul, bV_quo, bV_rem, bV_and, bV_or, bV_xor, bV_andNot, bV_eql, bV_neq, bV_lss, bV_leq, bV_gtr, bV_geq, bV_shl, bV_shr, bV_str, eV_bool, eV_nn, eV_np, eV_pn, eV_snn, eV_sns, eV_ssn, eV_mnn, eV_mnm, eV_mmn, eV_fnn, eV_fnf, eV_ffn, eV_agg, rP_load, rP_lenNil, rP_str0, rdEl_K, rdK_row, aP_alloc, aP_box, aP_buildSlice, aP_makeSlice, aP_makeMap, aP_toBytes, hP_store, storeK_some, st_K, stK_row, stE_some, cells_agg, cells_bool, scalar_bool, cells_int, scalar_int, cells_str, scalar_str, cells_nilptr, scalar_nilptr, cells_ptr, scalar_ptr, cells_nilslice, scalar_nilslice, cells_slice, scalar_slice, cells_nilmap, scalar_nilmap, cells_map, scalar_map, cells_nilfunc, scalar_nilfunc, cells_func, scalar_func, eqCells, eqLeaf, run_toL, toL_some, ev_toL, getD_toL, put_toL, keep_toL, asc, fput_same, fput_ne, fbase_nil, fbase_cons, fkeep_nil, fkeep_cons, fzero, fnone, List.map_cons, List.map_nil, ev_lit, put_none, resVals, resVal, resOf, partV, fillA, putCells, fillEls, strBin, minV, optNat, appendEls, elsOf, sliceSlV, sliceStrV, List.replicate, List.getElem?_append_left, List.getElem?_append_right, List.set_append_left, List.set_append_right, List.getElem?_set_self, List.getElem?_set_ne, hq_get0, hq_get, hq_get2, hq_get3, hp_get0, hp_get, hp_get2, hp_get3, hp_set0, hp_set, hp_set2, hp_set3, wr_0, wr_1, wr_2, wr_3, wr_4, wr_n1, e1_9, ex0, d1, d1', d2, h2, hQ', l0, l1, l2]
  have d2 : decide ((30 : Int) < S.length) = false := dec_false (by omega)
  have d2' : decide (30 < S.length) = false := dec_false (by omega)
  by_cases h3 : 30 < W.length
  · have d3 : decide ((30 : Int) < W.length) = true := dec_true (by omega)
    simp [sf4, yld_some, exec_reg, exec_dreg, exec_seq, exec_cond, exec_block, exec_scope, exec_exit, exec_ret, exec_skip, exec_loop, ops_nil, ops_cons, ops_cons_gd, stages_nil, stages_cons_n, stages_cons_h, recheck, wantsOp, AV.same, sames, evalOp_p, evalOp_r, evalOp_a, evalOp_call, evalOp_callV, evalOp_store, evalOp_append, evalOp_clear, evalOp_mapUpdate, evalOp_delete, pP_move, pP_pick, pP_build, pP_nil_ptr, pP_nil_func, pP_bin, pP_eq, pP_neg, pP_inv, pP_not, pP_convInt, pP_convStr, pP_fieldAddr, pP_field, pP_indexAddr, pP_indexStr, pP_sliceStr, pP_sliceSl, pP_lenStr, pP_lenNil, pP_lenSl, pP_min, pP_max, pP_extract, pP_mkfn, bV_add, bV_sub, bV_mul, bV_quo, bV_rem, bV_and, bV_or, bV_xor, bV_andNot, bV_eql, bV_neq, bV_lss, bV_leq, bV_gtr, bV_geq, bV_shl, bV_shr, bV_str, eV_bool, eV_nn, eV_np, eV_pn, eV_snn, eV_sns, eV_ssn, eV_mnn, eV_mnm, eV_mmn, eV_fnn, eV_fnf, eV_ffn, eV_agg, rP_load, rP_lenNil, rP_str0, rdEl_K, rdK_row, aP_alloc, aP_box, aP_buildSlice, aP_makeSlice, aP_makeMap, aP_toBytes, hP_store, storeK_some, st_K, stK_row, stE_some, cells_agg, cells_bool, scalar_bool, cells_int, scalar_int, cells_str, scalar_str, cells_nilptr, scalar_nilptr, cells_ptr, scalar_ptr, cells_nilslice, scalar_nilslice, cells_slice, scalar_slice, cells_nilmap, scalar_nilmap, cells_map, scalar_map, cells_nilfunc, scalar_nilfunc, cells_func, scalar_func, eqCells, eqLeaf, run_toL, toL_some, ev_toL, getD_toL, put_toL, keep_toL, asc, fput_same, fput_ne, fbase_nil, fbase_cons, fkeep_nil, fkeep_cons, fzero, fnone, List.map_cons, List.map_nil, ev_lit, put_none, resVals, resVal, resOf, partV, fillA, putCells, fillEls, strBin, minV, optNat, appendEls, elsOf, sliceSlV, sliceStrV, List.replicate, List.getElem?_append_left, List.getElem?_append_right, List.set_append_left, List.set_append_right, List.getElem?_set_self, List.getElem?_set_ne, hq_get0, hq_get, hq_get2, hq_get3, hp_get0, hp_get, hp_get2, hp_get3, hp_set0, hp_set, hp_set2, hp_set3, wr_0, wr_1, wr_2, wr_3, wr_4, wr_n1, e1_9, ex0, d1, d1', d2, d2', d3, h3, hQ', l0, l1, l2]
  have d3 : decide ((30 : Int) < W.length) = false := dec_false (by omega)
  have d3' : decide (30 < W.length) = false := dec_false (by omega)
  simp [sf4, yld_some, exec_reg, exec_dreg, exec_seq, exec_cond, exec_block, exec_scope, exec_exit, exec_ret, exec_skip, exec_loop, ops_nil, ops_cons, ops_cons_gd, stages_nil, stages_cons_n, stages_cons_h, recheck, wantsOp, AV.same, sames, evalOp_p, evalOp_r, evalOp_a, evalOp_call, evalOp_callV, evalOp_store, evalOp_append, evalOp_clear, evalOp_mapUpdate, evalOp_delete, pP_move, pP_pick, pP_build, pP_nil_ptr, pP_nil_func, pP_bin, pP_eq, pP_neg, pP_inv, pP_not, pP_convInt, pP_convStr, pP_fieldAddr, pP_field, pP_indexAddr, pP_indexStr, pP_sliceStr, pP_sliceSl, pP_lenStr, pP_lenNil, pP_lenSl, pP_min, pP_max, pP_extract, pP_mkfn, bV_add, bV_sub, bV_mul, bV_quo, bV_rem, bV_and, bV_or, bV_xor, bV_andNot, bV_eql, bV_neq, bV_lss, bV_leq, bV_gtr, bV_geq, bV_shl, bV_shr, bV_str, eV_bool, eV_nn, eV_np, eV_pn, eV_snn, eV_sns, eV_ssn, eV_mnn, eV_mnm, eV_mmn, eV_fnn, eV_fnf, eV_ffn, eV_agg, rP_load, rP_lenNil, rP_str0, rdEl_K, rdK_row, aP_alloc, aP_box, aP_buildSlice, aP_makeSlice, aP_makeMap, aP_toBytes, hP_store, storeK_some, st_K, stK_row, stE_some, cells_agg, cells_bool, scalar_bool, cells_int, scalar_int, cells_str, scalar_str, cells_nilptr, scalar_nilptr, cells_ptr, scalar_ptr, cells_nilslice, scalar_nilslice, cells_slice, scalar_slice, cells_nilmap, scalar_nilmap, cells_map, scalar_map, cells_nilfunc, scalar_nilfunc, cells_func, scalar_func, eqCells, eqLeaf, run_toL, toL_some, ev_toL, getD_toL, put_toL, keep_toL, asc, fput_same, fput_ne, fbase_nil, fbase_cons, fkeep_nil, fkeep_cons, fzero, fnone, List.map_cons, List.map_nil, ev_lit, put_none, resVals, resVal, resOf, partV, fillA, putCells, fillEls, strBin, minV, optNat, appendEls, elsOf, sliceSlV, sliceStrV, List.replicate, List.getElem?_append_left, List.getElem?_append_right, List.set_append_left, List.set_append_right, List.getElem?_set_self, List.getElem?_set_ne, hq_get0, hq_get, hq_get2, hq_get3, hp_get0, hp_get, hp_get2, hp_get3, hp_set0, hp_set, hp_set2, hp_set3, wr_0, wr_1, wr_2, wr_3, wr_4, wr_n1, e1_9, ex0, d1, d1', d2, d2', d3, d3', l0, l1, l2]
  repeat (first | apply yld_endFn | apply yld_seqK | apply yld_blockK | apply yld_regK | apply yld_opsK | apply yld_putK | apply yld_stgK | apply yld_chkK)
  refine yld_rounds (fun z e kk => ∃ f i b, e = toL 158 f ∧ z = 30 - i ∧ i ≤ 30 ∧ f 0 = v0 ∧ f 1 = v1 ∧ f 2 = v2 ∧ f 7 = .str b ∧ f 8 = .int .i64 (i : Nat) ∧ b ++ tl L S W (30 - i) = tl L S W 30 ∧ b.length ≤ 266 * i ∧ (∀ j v, j < i → L[j]? = some v → ∃ n : Nat, v = n ∧ n ≤ 65535) ∧ (∀ j s, j < i → S[j]? = some s → s.length ≤ 255) ∧ h = kk) (30 - 0) ?_ ?_
  · exact ⟨_, 0, [], rfl, rfl, Nat.zero_le _, rfl, rfl, rfl, rfl, rfl, rfl, Nat.zero_le _, fun j v hj => absurd hj (Nat.not_lt_zero _), fun j v hj => absurd hj (Nat.not_lt_zero _), rfl⟩
  · rintro J R hJ hR z e kk ⟨f, i, b, rfl, rfl, hi, f0, f1, f2, f7, f8, hb, hbl, hlo, hso, rfl⟩
    by_cases hil : i < 30
    · have hw : IntKind.i64.wrap ((i : Int) + 1) = ((i + 1 : Nat) : Int) := wrap_i64 (by omega) (by omega)
      have hrnd := tl_at L S W hil
      have i30 : decide ((i : Int) < 30) = true := dec_true (by omega)
      have i30n : decide (i < 30) = true := dec_true hil
      have bl48 : b.length ≤ 281474976710656 := by omega
      have hstep0 : (∀ v, L[i]? = some v → ∃ n : Nat, v = n ∧ n ≤ 65535) → ∀ j v, j < i + 1 → L[j]? = some v → ∃ n : Nat, v = n ∧ n ≤ 65535 := by
        intro h0 j v hj hv
        by_cases hji : j = i
        · subst hji; exact h0 v hv
        · exact hlo j v (by omega) hv
      have hstep1 : (∀ v, S[i]? = some v → v.length ≤ 255) → ∀ j v, j < i + 1 → S[j]? = some v → v.length ≤ 255 := by
        intro h0 j v hj hv
        by_cases hji : j = i
        · subst hji; exact h0 v hv
        · exact hso j v (by omega) hv
      --cases1
      by_cases a0n : i < L.length
      · have a0 : decide (i < L.length) = true := dec_true a0n
        have a0i : decide ((i : Int) < L.length) = true := dec_true (by omega)
        have g0 := aL.get i a0n
        have x0 := aL.idx i a0n
        have q0 : L[i]? = some L[i] := List.getElem?_eq_getElem a0n
        generalize hv : L[i] = v at g0 q0
        by_cases b0 : v < 0
        · have z0 : decide (v < 0) = true := dec_true b0
          simp [yld_some, exec_reg, exec_dreg, exec_seq, exec_cond, exec_block, exec_scope, exec_exit, exec_ret, exec_skip, exec_loop, ops_nil, ops_cons, ops_cons_gd, stages_nil, stages_cons_n, stages_cons_h, recheck, wantsOp, AV.same, sames, evalOp_p, evalOp_r, evalOp_a, evalOp_call, evalOp_callV, evalOp_store, evalOp_append, evalOp_clear, evalOp_mapUpdate, evalOp_delete, pP_move, pP_pick, pP_build, pP_nil_ptr, pP_nil_func, pP_bin, pP_eq, pP_neg, pP_inv, pP_not, pP_convInt, pP_convStr, pP_fieldAddr, pP_field, pP_indexAddr, pP_indexStr, pP_sliceStr, pP_sliceSl, pP_lenStr, pP_lenNil, pP_lenSl, pP_min, pP_max, pP_extract, pP_mkfn, bV_add, bV_sub, bV_mul, bV_quo, bV_rem, bV_and, bV_or, bV_xor, bV_andNot, bV_eql, bV_neq, bV_lss, bV_leq, bV_gtr, bV_geq, bV_shl, bV_shr, bV_str, eV_bool, eV_nn, eV_np, eV_pn, eV_snn, eV_sns, eV_ssn, eV_mnn, eV_mnm, eV_mmn, eV_fnn, eV_fnf, eV_ffn, eV_agg, rP_load, rP_lenNil, rP_str0, rdEl_K, rdK_row, aP_alloc, aP_box, aP_buildSlice, aP_makeSlice, aP_makeMap, aP_toBytes, hP_store, storeK_some, st_K, stK_row, stE_some, cells_agg, cells_bool, scalar_bool, cells_int, scalar_int, cells_str, scalar_str, cells_nilptr, scalar_nilptr, cells_ptr, scalar_ptr, cells_nilslice, scalar_nilslice, cells_slice, scalar_slice, cells_nilmap, scalar_nilmap, cells_map, scalar_map, cells_nilfunc, scalar_nilfunc, cells_func, scalar_func, eqCells, eqLeaf, run_toL, toL_some, ev_toL, getD_toL, put_toL, keep_toL, asc, fput_same, fput_ne, fbase_nil, fbase_cons, fkeep_nil, fkeep_cons, fzero, fnone, List.map_cons, List.map_nil, ev_lit, put_none, resVals, resVal, resOf, partV, fillA, putCells, fillEls, strBin, minV, optNat, appendEls, elsOf, sliceSlV, sliceStrV, List.replicate, List.getElem?_append_left, List.getElem?_append_right, List.set_append_left, List.set_append_right, List.getElem?_set_self, List.getElem?_set_ne, hq_get0, hq_get, hq_get2, hq_get3, hp_get0, hp_get, hp_get2, hp_get3, hp_set0, hp_set, hp_set2, hp_set3, wr_0, wr_1, wr_2, wr_3, wr_4, wr_n1, e1_9, e1_10, e1_11, e1_14, e1_16, e1_17, e1_19, e1_21, e1_23, e1_24, ex0, exG, exR, f0, f1, f2, f7, f8, l0, l1, l2, hw, i30, i30n, bl48, a0, a0i, g0, x0, b0, z0]
          refine hR _ ?_
          simp [yld_some, exec_reg, exec_dreg, exec_seq, exec_cond, exec_block, exec_scope, exec_exit, exec_ret, exec_skip, exec_loop, ops_nil, ops_cons, ops_cons_gd, stages_nil, stages_cons_n, stages_cons_h, recheck, wantsOp, AV.same, sames, evalOp_p, evalOp_r, evalOp_a, evalOp_call, evalOp_callV, evalOp_store, evalOp_append, evalOp_clear, evalOp_mapUpdate, evalOp_delete, pP_move, pP_pick, pP_build, pP_nil_ptr, pP_nil_func, pP_bin, pP_eq, pP_neg, pP_inv, pP_not, pP_convInt, pP_convStr, pP_fieldAddr, pP_field, pP_indexAddr, pP_indexStr, pP_sliceStr, pP_sliceSl, pP_lenStr, pP_lenNil, pP_lenSl, pP_min, pP_max, pP_extract, pP_mkfn, bV_add, bV_sub, bV_mul, bV_quo, bV_rem, bV_and, bV_or, bV_xor, bV_andNot, bV_eql, bV_neq, bV_lss, bV_leq, bV_gtr, bV_geq, bV_shl, bV_shr, bV_str, eV_bool, eV_nn, eV_np, eV_pn, eV_snn, eV_sns, eV_ssn, eV_mnn, eV_mnm, eV_mmn, eV_fnn, eV_fnf, eV_ffn, eV_agg, rP_load, rP_lenNil, rP_str0, rdEl_K, rdK_row, aP_alloc, aP_box, aP_buildSlice, aP_makeSlice, aP_makeMap, aP_toBytes, hP_store, storeK_some, st_K, stK_row, stE_some, cells_agg, cells_bool, scalar_bool, cells_int, scalar_int, cells_str, scalar_str, cells_nilptr, scalar_nilptr, cells_ptr, scalar_ptr, cells_nilslice, scalar_nilslice, cells_slice, scalar_slice, cells_nilmap, scalar_nilmap, cells_map, scalar_map, cells_nilfunc, scalar_nilfunc, cells_func, scalar_func, eqCells, eqLeaf, run_toL, toL_some, ev_toL, getD_toL, put_toL, keep_toL, asc, fput_same, fput_ne, fbase_nil, fbase_cons, fkeep_nil, fkeep_cons, fzero, fnone, List.map_cons, List.map_nil, ev_lit, put_none, resVals, resVal, resOf, partV, fillA, putCells, fillEls, strBin, minV, optNat, appendEls, elsOf, sliceSlV, sliceStrV, List.replicate, List.getElem?_append_left, List.getElem?_append_right, List.set_append_left, List.set_append_right, List.getElem?_set_self, List.getElem?_set_ne, hq_get0, hq_get, hq_get2, hq_get3, hp_get0, hp_get, hp_get2, hp_get3, hp_set0, hp_set, hp_set2, hp_set3, wr_0, wr_1, wr_2, wr_3, wr_4, wr_n1, hQ']
        by_cases b1 : 65535 < v
        · have z0 : decide (v < 0) = false := dec_false b0
          have z1 : decide (65535 < v) = true := dec_true b1
          simp [yld_some, exec_reg, exec_dreg, exec_seq, exec_cond, exec_block, exec_scope, exec_exit, exec_ret, exec_skip, exec_loop, ops_nil, ops_cons, ops_cons_gd, stages_nil, stages_cons_n, stages_cons_h, recheck, wantsOp, AV.same, sames, evalOp_p, evalOp_r, evalOp_a, evalOp_call, evalOp_callV, evalOp_store, evalOp_append, evalOp_clear, evalOp_mapUpdate, evalOp_delete, pP_move, pP_pick, pP_build, pP_nil_ptr, pP_nil_func, pP_bin, pP_eq, pP_neg, pP_inv, pP_not, pP_convInt, pP_convStr, pP_fieldAddr, pP_field, pP_indexAddr, pP_indexStr, pP_sliceStr, pP_sliceSl, pP_lenStr, pP_lenNil, pP_lenSl, pP_min, pP_max, pP_extract, pP_mkfn, bV_add, bV_sub, bV_mul, bV_quo, bV_rem, bV_and, bV_or, bV_xor, bV_andNot, bV_eql, bV_neq, bV_lss, bV_leq, bV_gtr, bV_geq, bV_shl, bV_shr, bV_str, eV_bool, eV_nn, eV_np, eV_pn, eV_snn, eV_sns, eV_ssn, eV_mnn, eV_mnm, eV_mmn, eV_fnn, eV_fnf, eV_ffn, eV_agg, rP_load, rP_lenNil, rP_str0, rdEl_K, rdK_row, aP_alloc, aP_box, aP_buildSlice, aP_makeSlice, aP_makeMap, aP_toBytes, hP_store, storeK_some, st_K, stK_row, stE_some, cells_agg, cells_bool, scalar_bool, cells_int, scalar_int, cells_str, scalar_str, cells_nilptr, scalar_nilptr, cells_ptr, scalar_ptr, cells_nilslice, scalar_nilslice, cells_slice, scalar_slice, cells_nilmap, scalar_nilmap, cells_map, scalar_map, cells_nilfunc, scalar_nilfunc, cells_func, scalar_func, eqCells, eqLeaf, run_toL, toL_some, ev_toL, getD_toL, put_toL, keep_toL, asc, fput_same, fput_ne, fbase_nil, fbase_cons, fkeep_nil, fkeep_cons, fzero, fnone, List.map_cons, List.map_nil, ev_lit, put_none, resVals, resVal, resOf, partV, fillA, putCells, fillEls, strBin, minV, optNat, appendEls, elsOf, sliceSlV, sliceStrV, List.replicate, List.getElem?_append_left, List.getElem?_append_right, List.set_append_left, List.set_append_right, List.getElem?_set_self, List.getElem?_set_ne, hq_get0, hq_get, hq_get2, hq_get3, hp_get0, hp_get, hp_get2, hp_get3, hp_set0, hp_set, hp_set2, hp_set3, wr_0, wr_1, wr_2, wr_3, wr_4, wr_n1, e1_9, e1_10, e1_11, e1_14, e1_16, e1_17, e1_19, e1_21, e1_23, e1_24, ex0, exG, exR, f0, f1, f2, f7, f8, l0, l1, l2, hw, i30, i30n, bl48, a0, a0i, g0, x0, b0, z0, b1, z1]
          refine hR _ ?_
          simp [yld_some, exec_reg, exec_dreg, exec_seq, exec_cond, exec_block, exec_scope, exec_exit, exec_ret, exec_skip, exec_loop, ops_nil, ops_cons, ops_cons_gd, stages_nil, stages_cons_n, stages_cons_h, recheck, wantsOp, AV.same, sames, evalOp_p, evalOp_r, evalOp_a, evalOp_call, evalOp_callV, evalOp_store, evalOp_append, evalOp_clear, evalOp_mapUpdate, evalOp_delete, pP_move, pP_pick, pP_build, pP_nil_ptr, pP_nil_func, pP_bin, pP_eq, pP_neg, pP_inv, pP_not, pP_convInt, pP_convStr, pP_fieldAddr, pP_field, pP_indexAddr, pP_indexStr, pP_sliceStr, pP_sliceSl, pP_lenStr, pP_lenNil, pP_lenSl, pP_min, pP_max, pP_extract, pP_mkfn, bV_add, bV_sub, bV_mul, bV_quo, bV_rem, bV_and, bV_or, bV_xor, bV_andNot, bV_eql, bV_neq, bV_lss, bV_leq, bV_gtr, bV_geq, bV_shl, bV_shr, bV_str, eV_bool, eV_nn, eV_np, eV_pn, eV_snn, eV_sns, eV_ssn, eV_mnn, eV_mnm, eV_mmn, eV_fnn, eV_fnf, eV_ffn, eV_agg, rP_load, rP_lenNil, rP_str0, rdEl_K, rdK_row, aP_alloc, aP_box, aP_buildSlice, aP_makeSlice, aP_makeMap, aP_toBytes, hP_store, storeK_some, st_K, stK_row, stE_some, cells_agg, cells_bool, scalar_bool, cells_int, scalar_int, cells_str, scalar_str, cells_nilptr, scalar_nilptr, cells_ptr, scalar_ptr, cells_nilslice, scalar_nilslice, cells_slice, scalar_slice, cells_nilmap, scalar_nilmap, cells_map, scalar_map, cells_nilfunc, scalar_nilfunc, cells_func, scalar_func, eqCells, eqLeaf, run_toL, toL_some, ev_toL, getD_toL, put_toL, keep_toL, asc, fput_same, fput_ne, fbase_nil, fbase_cons, fkeep_nil, fkeep_cons, fzero, fnone, List.map_cons, List.map_nil, ev_lit, put_none, resVals, resVal, resOf, partV, fillA, putCells, fillEls, strBin, minV, optNat, appendEls, elsOf, sliceSlV, sliceStrV, List.replicate, List.getElem?_append_left, List.getElem?_append_right, List.set_append_left, List.set_append_right, List.getElem?_set_self, List.getElem?_set_ne, hq_get0, hq_get, hq_get2, hq_get3, hp_get0, hp_get, hp_get2, hp_get3, hp_set0, hp_set, hp_set2, hp_set3, wr_0, wr_1, wr_2, wr_3, wr_4, wr_n1, hQ']
        have z0 : decide (v < 0) = false := dec_false b0
        have z1 : decide (65535 < v) = false := dec_false b1
        obtain ⟨n, rfl⟩ : ∃ n : Nat, v = n := ⟨v.toNat, by omega⟩
        have nl : (numS (n : Int)).length = 2 := rfl
        by_cases a1n : i < S.length
        · have a1 : decide (i < S.length) = true := dec_true a1n
          have a1i : decide ((i : Int) < S.length) = true := dec_true (by omega)
          have g1 := aS.get i a1n
          have x1 := aS.idx i a1n
          have q1 : S[i]? = some S[i] := List.getElem?_eq_getElem a1n
          generalize hs : S[i] = s at g1 q1
          by_cases c0 : 255 < s.length
          · have c0i : decide ((255 : Int) < s.length) = true := dec_true (by omega)
            have sz1 : ¬ 9223372036854775807 < (b.length : Int) + (numS (n : Int)).length := by rw [nl]; omega
            simp [yld_some, exec_reg, exec_dreg, exec_seq, exec_cond, exec_block, exec_scope, exec_exit, exec_ret, exec_skip, exec_loop, ops_nil, ops_cons, ops_cons_gd, stages_nil, stages_cons_n, stages_cons_h, recheck, wantsOp, AV.same, sames, evalOp_p, evalOp_r, evalOp_a, evalOp_call, evalOp_callV, evalOp_store, evalOp_append, evalOp_clear, evalOp_mapUpdate, evalOp_delete, pP_move, pP_pick, pP_build, pP_nil_ptr, pP_nil_func, pP_bin, pP_eq, pP_neg, pP_inv, pP_not, pP_convInt, pP_convStr, pP_fieldAddr, pP_field, pP_indexAddr, pP_indexStr, pP_sliceStr, pP_sliceSl, pP_lenStr, pP_lenNil, pP_lenSl, pP_min, pP_max, pP_extract, pP_mkfn, bV_add, bV_sub, bV_mul, bV_quo, bV_rem, bV_and, bV_or, bV_xor, bV_andNot, bV_eql, bV_neq, bV_lss, bV_leq, bV_gtr, bV_geq, bV_shl, bV_shr, bV_str, eV_bool, eV_nn, eV_np, eV_pn, eV_snn, eV_sns, eV_ssn, eV_mnn, eV_mnm, eV_mmn, eV_fnn, eV_fnf, eV_ffn, eV_agg, rP_load, rP_lenNil, rP_str0, rdEl_K, rdK_row, aP_alloc, aP_box, aP_buildSlice, aP_makeSlice, aP_makeMap, aP_toBytes, hP_store, storeK_some, st_K, stK_row, stE_some, cells_agg, cells_bool, scalar_bool, cells_int, scalar_int, cells_str, scalar_str, cells_nilptr, scalar_nilptr, cells_ptr, scalar_ptr, cells_nilslice, scalar_nilslice, cells_slice, scalar_slice, cells_nilmap, scalar_nilmap, cells_map, scalar_map, cells_nilfunc, scalar_nilfunc, cells_func, scalar_func, eqCells, eqLeaf, run_toL, toL_some, ev_toL, getD_toL, put_toL, keep_toL, asc, fput_same, fput_ne, fbase_nil, fbase_cons, fkeep_nil, fkeep_cons, fzero, fnone, List.map_cons, List.map_nil, ev_lit, put_none, resVals, resVal, resOf, partV, fillA, putCells, fillEls, strBin, minV, optNat, appendEls, elsOf, sliceSlV, sliceStrV, List.replicate, List.getElem?_append_left, List.getElem?_append_right, List.set_append_left, List.set_append_right, List.getElem?_set_self, List.getElem?_set_ne, hq_get0, hq_get, hq_get2, hq_get3, hp_get0, hp_get, hp_get2, hp_get3, hp_set0, hp_set, hp_set2, hp_set3, wr_0, wr_1, wr_2, wr_3, wr_4, wr_n1, e1_9, e1_10, e1_11, e1_14, e1_16, e1_17, e1_19, e1_21, e1_23, e1_24, ex0, exG, exR, f0, f1, f2, f7, f8, l0, l1, l2, hw, i30, i30n, bl48, a0, a0i, g0, x0, b0, z0, b1, z1, a1, a1i, g1, x1, c0, c0i, sz1]
            refine hR _ ?_
            simp [yld_some, exec_reg, exec_dreg, exec_seq, exec_cond, exec_block, exec_scope, exec_exit, exec_ret, exec_skip, exec_loop, ops_nil, ops_cons, ops_cons_gd, stages_nil, stages_cons_n, stages_cons_h, recheck, wantsOp, AV.same, sames, evalOp_p, evalOp_r, evalOp_a, evalOp_call, evalOp_callV, evalOp_store, evalOp_append, evalOp_clear, evalOp_mapUpdate, evalOp_delete, pP_move, pP_pick, pP_build, pP_nil_ptr, pP_nil_func, pP_bin, pP_eq, pP_neg, pP_inv, pP_not, pP_convInt, pP_convStr, pP_fieldAddr, pP_field, pP_indexAddr, pP_indexStr, pP_sliceStr, pP_sliceSl, pP_lenStr, pP_lenNil, pP_lenSl, pP_min, pP_max, pP_extract, pP_mkfn, bV_add, bV_sub, bV_mul, bV_quo, bV_rem, bV_and, bV_or, bV_xor, bV_andNot, bV_eql, bV_neq, bV_lss, bV_leq, bV_gtr, bV_geq, bV_shl, bV_shr, bV_str, eV_bool, eV_nn, eV_np, eV_pn, eV_snn, eV_sns, eV_ssn, eV_mnn, eV_mnm, eV_mmn, eV_fnn, eV_fnf, eV_ffn, eV_agg, rP_load, rP_lenNil, rP_str0, rdEl_K, rdK_row, aP_alloc, aP_box, aP_buildSlice, aP_makeSlice, aP_makeMap, aP_toBytes, hP_store, storeK_some, st_K, stK_row, stE_some, cells_agg, cells_bool, scalar_bool, cells_int, scalar_int, cells_str, scalar_str, cells_nilptr, scalar_nilptr, cells_ptr, scalar_ptr, cells_nilslice, scalar_nilslice, cells_slice, scalar_slice, cells_nilmap, scalar_nilmap, cells_map, scalar_map, cells_nilfunc, scalar_nilfunc, cells_func, scalar_func, eqCells, eqLeaf, run_toL, toL_some, ev_toL, getD_toL, put_toL, keep_toL, asc, fput_same, fput_ne, fbase_nil, fbase_cons, fkeep_nil, fkeep_cons, fzero, fnone, List.map_cons, List.map_nil, ev_lit, put_none, resVals, resVal, resOf, partV, fillA, putCells, fillEls, strBin, minV, optNat, appendEls, elsOf, sliceSlV, sliceStrV, List.replicate, List.getElem?_append_left, List.getElem?_append_right, List.set_append_left, List.set_append_right, List.getElem?_set_self, List.getElem?_set_ne, hq_get0, hq_get, hq_get2, hq_get3, hp_get0, hp_get, hp_get2, hp_get3, hp_set0, hp_set, hp_set2, hp_set3, wr_0, wr_1, wr_2, wr_3, wr_4, wr_n1, hQ']
          have c0i : decide ((255 : Int) < s.length) = false := dec_false (by omega)
          have tlen : (textS s).length = s.length + 1 := rfl
          by_cases a2n : i < W.length
          · have a2 : decide (i < W.length) = true := dec_true a2n
            have a2i : decide ((i : Int) < W.length) = true := dec_true (by omega)
            have g2 := aW.get i a2n
            have x2 := aW.idx i a2n
            have q2 : W[i]? = some W[i] := List.getElem?_eq_getElem a2n
            generalize hww : W[i] = w at g2 q2
            have wl : (wideS (w : Int)).length = 8 := rfl
            have hr : rnd L S W i = numS (n : Int) ++ (textS s ++ (wideS (w : Int))) := by simp [rnd, q0, q1, q2]
            rw [hr] at hrnd; rw [hrnd] at hb
            have sz1 : ¬ 9223372036854775807 < (b.length : Int) + (numS (n : Int)).length := by rw [nl]; omega
            have sz2 : ¬ 9223372036854775807 < (b.length : Int) + (numS (n : Int)).length + (textS s).length := by rw [nl, tlen]; omega
            have sz3 : ¬ 9223372036854775807 < (b.length : Int) + (numS (n : Int)).length + (textS s).length + (wideS (w : Int)).length := by rw [nl, tlen, wl]; omega
            have sz4 : ¬ 9223372036854775807 < (b.length : Int) + ((numS (n : Int)).length + (textS s).length) + (wideS (w : Int)).length := by omega
            simp [yld_some, exec_reg, exec_dreg, exec_seq, exec_cond, exec_block, exec_scope, exec_exit, exec_ret, exec_skip, exec_loop, ops_nil, ops_cons, ops_cons_gd, stages_nil, stages_cons_n, stages_cons_h, recheck, wantsOp, AV.same, sames, evalOp_p, evalOp_r, evalOp_a, evalOp_call, evalOp_callV, evalOp_store, evalOp_append, evalOp_clear, evalOp_mapUpdate, evalOp_delete, pP_move, pP_pick, pP_build, pP_nil_ptr, pP_nil_func, pP_bin, pP_eq, pP_neg, pP_inv, pP_not, pP_convInt, pP_convStr, pP_fieldAddr, pP_field, pP_indexAddr, pP_indexStr, pP_sliceStr, pP_sliceSl, pP_lenStr, pP_lenNil, pP_lenSl, pP_min, pP_max, pP_extract, pP_mkfn, bV_add, bV_sub, bV_mul, bV_quo, bV_rem, bV_and, bV_or, bV_xor, bV_andNot, bV_eql, bV_neq, bV_lss, bV_leq, bV_gtr, bV_geq, bV_shl, bV_shr, bV_str, eV_bool, eV_nn, eV_np, eV_pn, eV_snn, eV_sns, eV_ssn, eV_mnn, eV_mnm, eV_mmn, eV_fnn, eV_fnf, eV_ffn, eV_agg, rP_load, rP_lenNil, rP_str0, rdEl_K, rdK_row, aP_alloc, aP_box, aP_buildSlice, aP_makeSlice, aP_makeMap, aP_toBytes, hP_store, storeK_some, st_K, stK_row, stE_some, cells_agg, cells_bool, scalar_bool, cells_int, scalar_int, cells_str, scalar_str, cells_nilptr, scalar_nilptr, cells_ptr, scalar_ptr, cells_nilslice, scalar_nilslice, cells_slice, scalar_slice, cells_nilmap, scalar_nilmap, cells_map, scalar_map, cells_nilfunc, scalar_nilfunc, cells_func, scalar_func, eqCells, eqLeaf, run_toL, toL_some, ev_toL, getD_toL, put_toL, keep_toL, asc, fput_same, fput_ne, fbase_nil, fbase_cons, fkeep_nil, fkeep_cons, fzero, fnone, List.map_cons, List.map_nil, ev_lit, put_none, resVals, resVal, resOf, partV, fillA, putCells, fillEls, strBin, minV, optNat, appendEls, elsOf, sliceSlV, sliceStrV, List.replicate, List.getElem?_append_left, List.getElem?_append_right, List.set_append_left, List.set_append_right, List.getElem?_set_self, List.getElem?_set_ne, hq_get0, hq_get, hq_get2, hq_get3, hp_get0, hp_get, hp_get2, hp_get3, hp_set0, hp_set, hp_set2, hp_set3, wr_0, wr_1, wr_2, wr_3, wr_4, wr_n1, e1_9, e1_10, e1_11, e1_14, e1_16, e1_17, e1_19, e1_21, e1_23, e1_24, ex0, exG, exR, f0, f1, f2, f7, f8, l0, l1, l2, hw, i30, i30n, bl48, a0, a0i, g0, x0, b0, z0, b1, z1, a1, a1i, g1, x1, c0, c0i, a2, a2i, g2, x2, sz4, sz1, sz2, sz3]
            refine ⟨30 - (i + 1), by omega, hJ _ _ _ ⟨_, i + 1, _, rfl, rfl, by omega, rfl, rfl, rfl, rfl, rfl, ?_, ?_, ?_, ?_, rfl⟩⟩
            · rw [← hb]; simp
            · simp only [List.length_append, nl, tlen, wl]; omega
            · refine hstep0 ?_
              intro v hv1; rw [q0] at hv1; cases hv1; exact ⟨n, rfl, by omega⟩
            · refine hstep1 ?_
              intro v hv1; rw [q1] at hv1; cases hv1; omega
          · have a2 : decide (i < W.length) = false := dec_false a2n
            have a2i : decide ((i : Int) < W.length) = false := dec_false (by omega)
            have q2 : W[i]? = none := List.getElem?_eq_none (by omega)
            have hr : rnd L S W i = numS (n : Int) ++ (textS s) := by simp [rnd, q0, q1, q2]
            rw [hr] at hrnd; rw [hrnd] at hb
            have sz1 : ¬ 9223372036854775807 < (b.length : Int) + (numS (n : Int)).length := by rw [nl]; omega
            have sz2 : ¬ 9223372036854775807 < (b.length : Int) + (numS (n : Int)).length + (textS s).length := by rw [nl, tlen]; omega
            simp [yld_some, exec_reg, exec_dreg, exec_seq, exec_cond, exec_block, exec_scope, exec_exit, exec_ret, exec_skip, exec_loop, ops_nil, ops_cons, ops_cons_gd, stages_nil, stages_cons_n, stages_cons_h, recheck, wantsOp, AV.same, sames, evalOp_p, evalOp_r, evalOp_a, evalOp_call, evalOp_callV, evalOp_store, evalOp_append, evalOp_clear, evalOp_mapUpdate, evalOp_delete, pP_move, pP_pick, pP_build, pP_nil_ptr, pP_nil_func, pP_bin, pP_eq, pP_neg, pP_inv, pP_not, pP_convInt, pP_convStr, pP_fieldAddr, pP_field, pP_indexAddr, pP_indexStr, pP_sliceStr, pP_sliceSl, pP_lenStr, pP_lenNil, pP_lenSl, pP_min, pP_max, pP_extract, pP_mkfn, bV_add, bV_sub, bV_mul, bV_quo, bV_rem, bV_and, bV_or, bV_xor, bV_andNot, bV_eql, bV_neq, bV_lss, bV_leq, bV_gtr, bV_geq, bV_shl, bV_shr, bV_str, eV_bool, eV_nn, eV_np, eV_pn, eV_snn, eV_sns, eV_ssn, eV_mnn, eV_mnm, eV_mmn, eV_fnn, eV_fnf, eV_ffn, eV_agg, rP_load, rP_lenNil, rP_str0, rdEl_K, rdK_row, aP_alloc, aP_box, aP_buildSlice, aP_makeSlice, aP_makeMap, aP_toBytes, hP_store, storeK_some, st_K, stK_row, stE_some, cells_agg, cells_bool, scalar_bool, cells_int, scalar_int, cells_str, scalar_str, cells_nilptr, scalar_nilptr, cells_ptr, scalar_ptr, cells_nilslice, scalar_nilslice, cells_slice, scalar_slice, cells_nilmap, scalar_nilmap, cells_map, scalar_map, cells_nilfunc, scalar_nilfunc, cells_func, scalar_func, eqCells, eqLeaf, run_toL, toL_some, ev_toL, getD_toL, put_toL, keep_toL, asc, fput_same, fput_ne, fbase_nil, fbase_cons, fkeep_nil, fkeep_cons, fzero, fnone, List.map_cons, List.map_nil, ev_lit, put_none, resVals, resVal, resOf, partV, fillA, putCells, fillEls, strBin, minV, optNat, appendEls, elsOf, sliceSlV, sliceStrV, List.replicate, List.getElem?_append_left, List.getElem?_append_right, List.set_append_left, List.set_append_right, List.getElem?_set_self, List.getElem?_set_ne, hq_get0, hq_get, hq_get2, hq_get3, hp_get0, hp_get, hp_get2, hp_get3, hp_set0, hp_set, hp_set2, hp_set3, wr_0, wr_1, wr_2, wr_3, wr_4, wr_n1, e1_9, e1_10, e1_11, e1_14, e1_16, e1_17, e1_19, e1_21, e1_23, e1_24, ex0, exG, exR, f0, f1, f2, f7, f8, l0, l1, l2, hw, i30, i30n, bl48, a0, a0i, g0, x0, b0, z0, b1, z1, a1, a1i, g1, x1, c0, c0i, a2, a2i, sz1, sz2]
            refine ⟨30 - (i + 1), by omega, hJ _ _ _ ⟨_, i + 1, _, rfl, rfl, by omega, rfl, rfl, rfl, rfl, rfl, ?_, ?_, ?_, ?_, rfl⟩⟩
            · rw [← hb]; simp
            · simp only [List.length_append, nl, tlen]; omega
            · refine hstep0 ?_
              intro v hv1; rw [q0] at hv1; cases hv1; exact ⟨n, rfl, by omega⟩
            · refine hstep1 ?_
              intro v hv1; rw [q1] at hv1; cases hv1; omega
        · have a1 : decide (i < S.length) = false := dec_false a1n
          have a1i : decide ((i : Int) < S.length) = false := dec_false (by omega)
          have q1 : S[i]? = none := List.getElem?_eq_none (by omega)
          by_cases a2n : i < W.length
          · have a2 : decide (i < W.length) = true := dec_true a2n
            have a2i : decide ((i : Int) < W.length) = true := dec_true (by omega)
            have g2 := aW.get i a2n
            have x2 := aW.idx i a2n
            have q2 : W[i]? = some W[i] := List.getElem?_eq_getElem a2n
            generalize hww : W[i] = w at g2 q2
            have wl : (wideS (w : Int)).length = 8 := rfl
            have hr : rnd L S W i = numS (n : Int) ++ (wideS (w : Int)) := by simp [rnd, q0, q1, q2]
            rw [hr] at hrnd; rw [hrnd] at hb
            have sz1 : ¬ 9223372036854775807 < (b.length : Int) + (numS (n : Int)).length := by rw [nl]; omega
            have sz2 : ¬ 9223372036854775807 < (b.length : Int) + (numS (n : Int)).length + (wideS (w : Int)).length := by rw [nl, wl]; omega
            simp [yld_some, exec_reg, exec_dreg, exec_seq, exec_cond, exec_block, exec_scope, exec_exit, exec_ret, exec_skip, exec_loop, ops_nil, ops_cons, ops_cons_gd, stages_nil, stages_cons_n, stages_cons_h, recheck, wantsOp, AV.same, sames, evalOp_p, evalOp_r, evalOp_a, evalOp_call, evalOp_callV, evalOp_store, evalOp_append, evalOp_clear, evalOp_mapUpdate, evalOp_delete, pP_move, pP_pick, pP_build, pP_nil_ptr, pP_nil_func, pP_bin, pP_eq, pP_neg, pP_inv, pP_not, pP_convInt, pP_convStr, pP_fieldAddr, pP_field, pP_indexAddr, pP_indexStr, pP_sliceStr, pP_sliceSl, pP_lenStr, pP_lenNil, pP_lenSl, pP_min, pP_max, pP_extract, pP_mkfn, bV_add, bV_sub, bV_mul, bV_quo, bV_rem, bV_and, bV_or, bV_xor, bV_andNot, bV_eql, bV_neq, bV_lss, bV_leq, bV_gtr, bV_geq, bV_shl, bV_shr, bV_str, eV_bool, eV_nn, eV_np, eV_pn, eV_snn, eV_sns, eV_ssn, eV_mnn, eV_mnm, eV_mmn, eV_fnn, eV_fnf, eV_ffn, eV_agg, rP_load, rP_lenNil, rP_str0, rdEl_K, rdK_row, aP_alloc, aP_box, aP_buildSlice, aP_makeSlice, aP_makeMap, aP_toBytes, hP_store, storeK_some, st_K, stK_row, stE_some, cells_agg, cells_bool, scalar_bool, cells_int, scalar_int, cells_str, scalar_str, cells_nilptr, scalar_nilptr, cells_ptr, scalar_ptr, cells_nilslice, scalar_nilslice, cells_slice, scalar_slice, cells_nilmap, scalar_nilmap, cells_map, scalar_map, cells_nilfunc, scalar_nilfunc, cells_func, scalar_func, eqCells, eqLeaf, run_toL, toL_some, ev_toL, getD_toL, put_toL, keep_toL, asc, fput_same, fput_ne, fbase_nil, fbase_cons, fkeep_nil, fkeep_cons, fzero, fnone, List.map_cons, List.map_nil, ev_lit, put_none, resVals, resVal, resOf, partV, fillA, putCells, fillEls, strBin, minV, optNat, appendEls, elsOf, sliceSlV, sliceStrV, List.replicate, List.getElem?_append_left, List.getElem?_append_right, List.set_append_left, List.set_append_right, List.getElem?_set_self, List.getElem?_set_ne, hq_get0, hq_get, hq_get2, hq_get3, hp_get0, hp_get, hp_get2, hp_get3, hp_set0, hp_set, hp_set2, hp_set3, wr_0, wr_1, wr_2, wr_3, wr_4, wr_n1, e1_9, e1_10, e1_11, e1_14, e1_16, e1_17, e1_19, e1_21, e1_23, e1_24, ex0, exG, exR, f0, f1, f2, f7, f8, l0, l1, l2, hw, i30, i30n, bl48, a0, a0i, g0, x0, b0, z0, b1, z1, a1, a1i, a2, a2i, g2, x2, sz1, sz2]
            refine ⟨30 - (i + 1), by omega, hJ _ _ _ ⟨_, i + 1, _, rfl, rfl, by omega, rfl, rfl, rfl, rfl, rfl, ?_, ?_, ?_, ?_, rfl⟩⟩
            · rw [← hb]; simp
            · simp only [List.length_append, nl, wl]; omega
            · refine hstep0 ?_
              intro v hv1; rw [q0] at hv1; cases hv1; exact ⟨n, rfl, by omega⟩
            · refine hstep1 ?_
              intro v hv1; rw [q1] at hv1; cases hv1
          · have a2 : decide (i < W.length) = false := dec_false a2n
            have a2i : decide ((i : Int) < W.length) = false := dec_false (by omega)
            have q2 : W[i]? = none := List.getElem?_eq_none (by omega)
            have hr : rnd L S W i = numS (n : Int) := by simp [rnd, q0, q1, q2]
            rw [hr] at hrnd; rw [hrnd] at hb
            have sz1 : ¬ 9223372036854775807 < (b.length : Int) + (numS (n : Int)).length := by rw [nl]; omega
            simp [yld_some, exec_reg, exec_dreg, exec_seq, exec_cond, exec_block, exec_scope, exec_exit, exec_ret, exec_skip, exec_loop, ops_nil, ops_cons, ops_cons_gd, stages_nil, stages_cons_n, stages_cons_h, recheck, wantsOp, AV.same, sames, evalOp_p, evalOp_r, evalOp_a, evalOp_call, evalOp_callV, evalOp_store, evalOp_append, evalOp_clear, evalOp_mapUpdate, evalOp_delete, pP_move, pP_pick, pP_build, pP_nil_ptr, pP_nil_func, pP_bin, pP_eq, pP_neg, pP_inv, pP_not, pP_convInt, pP_convStr, pP_fieldAddr, pP_field, pP_indexAddr, pP_indexStr, pP_sliceStr, pP_sliceSl, pP_lenStr, pP_lenNil, pP_lenSl, pP_min, pP_max, pP_extract, pP_mkfn, bV_add, bV_sub, bV_mul, bV_quo, bV_rem, bV_and, bV_or, bV_xor, bV_andNot, bV_eql, bV_neq, bV_lss, bV_leq, bV_gtr, bV_geq, bV_shl, bV_shr, bV_str, eV_bool, eV_nn, eV_np, eV_pn, eV_snn, eV_sns, eV_ssn, eV_mnn, eV_mnm, eV_mmn, eV_fnn, eV_fnf, eV_ffn, eV_agg, rP_load, rP_lenNil, rP_str0, rdEl_K, rdK_row, aP_alloc, aP_box, aP_buildSlice, aP_makeSlice, aP_makeMap, aP_toBytes, hP_store, storeK_some, st_K, stK_row, stE_some, cells_agg, cells_bool, scalar_bool, cells_int, scalar_int, cells_str, scalar_str, cells_nilptr, scalar_nilptr, cells_ptr, scalar_ptr, cells_nilslice, scalar_nilslice, cells_slice, scalar_slice, cells_nilmap, scalar_nilmap, cells_map, scalar_map, cells_nilfunc, scalar_nilfunc, cells_func, scalar_func, eqCells, eqLeaf, run_toL, toL_some, ev_toL, getD_toL, put_toL, keep_toL, asc, fput_same, fput_ne, fbase_nil, fbase_cons, fkeep_nil, fkeep_cons, fzero, fnone, List.map_cons, List.map_nil, ev_lit, put_none, resVals, resVal, resOf, partV, fillA, putCells, fillEls, strBin, minV, optNat, appendEls, elsOf, sliceSlV, sliceStrV, List.replicate, List.getElem?_append_left, List.getElem?_append_right, List.set_append_left, List.set_append_right, List.getElem?_set_self, List.getElem?_set_ne, hq_get0, hq_get, hq_get2, hq_get3, hp_get0, hp_get, hp_get2, hp_get3, hp_set0, hp_set, hp_set2, hp_set3, wr_0, wr_1, wr_2, wr_3, wr_4, wr_n1, e1_9, e1_10, e1_11, e1_14, e1_16, e1_17, e1_19, e1_21, e1_23, e1_24, ex0, exG, exR, f0, f1, f2, f7, f8, l0, l1, l2, hw, i30, i30n, bl48, a0, a0i, g0, x0, b0, z0, b1, z1, a1, a1i, a2, a2i, sz1]
            refine ⟨30 - (i + 1), by omega, hJ _ _ _ ⟨_, i + 1, _, rfl, rfl, by omega, rfl, rfl, rfl, rfl, rfl, ?_, ?_, ?_, ?_, rfl⟩⟩
            · rw [← hb]; simp
            · simp only [List.length_append, nl]; omega
            · refine hstep0 ?_
              intro v hv1; rw [q0] at hv1; cases hv1; exact ⟨n, rfl, by omega⟩
            · refine hstep1 ?_
              intro v hv1; rw [q1] at hv1; cases hv1
      · have a0 : decide (i < L.length) = false := dec_false a0n
        have a0i : decide ((i : Int) < L.length) = false := dec_false (by omega)
        have q0 : L[i]? = none := List.getElem?_eq_none (by omega)
        by_cases a1n : i < S.length
        · have a1 : decide (i < S.length) = true := dec_true a1n
          have a1i : decide ((i : Int) < S.length) = true := dec_true (by omega)
          have g1 := aS.get i a1n
          have x1 := aS.idx i a1n
          have q1 : S[i]? = some S[i] := List.getElem?_eq_getElem a1n
          generalize hs : S[i] = s at g1 q1
          by_cases c0 : 255 < s.length
          · have c0i : decide ((255 : Int) < s.length) = true := dec_true (by omega)
            simp [yld_some, exec_reg, exec_dreg, exec_seq, exec_cond, exec_block, exec_scope, exec_exit, exec_ret, exec_skip, exec_loop, ops_nil, ops_cons, ops_cons_gd, stages_nil, stages_cons_n, stages_cons_h, recheck, wantsOp, AV.same, sames, evalOp_p, evalOp_r, evalOp_a, evalOp_call, evalOp_callV, evalOp_store, evalOp_append, evalOp_clear, evalOp_mapUpdate, evalOp_delete, pP_move, pP_pick, pP_build, pP_nil_ptr, pP_nil_func, pP_bin, pP_eq, pP_neg, pP_inv, pP_not, pP_convInt, pP_convStr, pP_fieldAddr, pP_field, pP_indexAddr, pP_indexStr, pP_sliceStr, pP_sliceSl, pP_lenStr, pP_lenNil, pP_lenSl, pP_min, pP_max, pP_extract, pP_mkfn, bV_add, bV_sub, bV_mul, bV_quo, bV_rem, bV_and, bV_or, bV_xor, bV_andNot, bV_eql, bV_neq, bV_lss, bV_leq, bV_gtr, bV_geq, bV_shl, bV_shr, bV_str, eV_bool, eV_nn, eV_np, eV_pn, eV_snn, eV_sns, eV_ssn, eV_mnn, eV_mnm, eV_mmn, eV_fnn, eV_fnf, eV_ffn, eV_agg, rP_load, rP_lenNil, rP_str0, rdEl_K, rdK_row, aP_alloc, aP_box, aP_buildSlice, aP_makeSlice, aP_makeMap, aP_toBytes, hP_store, storeK_some, st_K, stK_row, stE_some, cells_agg, cells_bool, scalar_bool, cells_int, scalar_int, cells_str, scalar_str, cells_nilptr, scalar_nilptr, cells_ptr, scalar_ptr, cells_nilslice, scalar_nilslice, cells_slice, scalar_slice, cells_nilmap, scalar_nilmap, cells_map, scalar_map, cells_nilfunc, scalar_nilfunc, cells_func, scalar_func, eqCells, eqLeaf, run_toL, toL_some, ev_toL, getD_toL, put_toL, keep_toL, asc, fput_same, fput_ne, fbase_nil, fbase_cons, fkeep_nil, fkeep_cons, fzero, fnone, List.map_cons, List.map_nil, ev_lit, put_none, resVals, resVal, resOf, partV, fillA, putCells, fillEls, strBin, minV, optNat, appendEls, elsOf, sliceSlV, sliceStrV, List.replicate, List.getElem?_append_left, List.getElem?_append_right, List.set_append_left, List.set_append_right, List.getElem?_set_self, List.getElem?_set_ne, hq_get0, hq_get, hq_get2, hq_get3, hp_get0, hp_get, hp_get2, hp_get3, hp_set0, hp_set, hp_set2, hp_set3, wr_0, wr_1, wr_2, wr_3, wr_4, wr_n1, e1_9, e1_10, e1_11, e1_14, e1_16, e1_17, e1_19, e1_21, e1_23, e1_24, ex0, exG, exR, f0, f1, f2, f7, f8, l0, l1, l2, hw, i30, i30n, bl48, a0, a0i, a1, a1i, g1, x1, c0, c0i]
            refine hR _ ?_
            simp [yld_some, exec_reg, exec_dreg, exec_seq, exec_cond, exec_block, exec_scope, exec_exit, exec_ret, exec_skip, exec_loop, ops_nil, ops_cons, ops_cons_gd, stages_nil, stages_cons_n, stages_cons_h, recheck, wantsOp, AV.same, sames, evalOp_p, evalOp_r, evalOp_a, evalOp_call, evalOp_callV, evalOp_store, evalOp_append, evalOp_clear, evalOp_mapUpdate, evalOp_delete, pP_move, pP_pick, pP_build, pP_nil_ptr, pP_nil_func, pP_bin, pP_eq, pP_neg, pP_inv, pP_not, pP_convInt, pP_convStr, pP_fieldAddr, pP_field, pP_indexAddr, pP_indexStr, pP_sliceStr, pP_sliceSl, pP_lenStr, pP_lenNil, pP_lenSl, pP_min, pP_max, pP_extract, pP_mkfn, bV_add, bV_sub, bV_mul, bV_quo, bV_rem, bV_and, bV_or, bV_xor, bV_andNot, bV_eql, bV_neq, bV_lss, bV_leq, bV_gtr, bV_geq, bV_shl, bV_shr, bV_str, eV_bool, eV_nn, eV_np, eV_pn, eV_snn, eV_sns, eV_ssn, eV_mnn, eV_mnm, eV_mmn, eV_fnn, eV_fnf, eV_ffn, eV_agg, rP_load, rP_lenNil, rP_str0, rdEl_K, rdK_row, aP_alloc, aP_box, aP_buildSlice, aP_makeSlice, aP_makeMap, aP_toBytes, hP_store, storeK_some, st_K, stK_row, stE_some, cells_agg, cells_bool, scalar_bool, cells_int, scalar_int, cells_str, scalar_str, cells_nilptr, scalar_nilptr, cells_ptr, scalar_ptr, cells_nilslice, scalar_nilslice, cells_slice, scalar_slice, cells_nilmap, scalar_nilmap, cells_map, scalar_map, cells_nilfunc, scalar_nilfunc, cells_func, scalar_func, eqCells, eqLeaf, run_toL, toL_some, ev_toL, getD_toL, put_toL, keep_toL, asc, fput_same, fput_ne, fbase_nil, fbase_cons, fkeep_nil, fkeep_cons, fzero, fnone, List.map_cons, List.map_nil, ev_lit, put_none, resVals, resVal, resOf, partV, fillA, putCells, fillEls, strBin, minV, optNat, appendEls, elsOf, sliceSlV, sliceStrV, List.replicate, List.getElem?_append_left, List.getElem?_append_right, List.set_append_left, List.set_append_right, List.getElem?_set_self, List.getElem?_set_ne, hq_get0, hq_get, hq_get2, hq_get3, hp_get0, hp_get, hp_get2, hp_get3, hp_set0, hp_set, hp_set2, hp_set3, wr_0, wr_1, wr_2, wr_3, wr_4, wr_n1, hQ']
          have c0i : decide ((255 : Int) < s.length) = false := dec_false (by omega)
          have tlen : (textS s).length = s.length + 1 := rfl
          by_cases a2n : i < W.length
          · have a2 : decide (i < W.length) = true := dec_true a2n
            have a2i : decide ((i : Int) < W.length) = true := dec_true (by omega)
            have g2 := aW.get i a2n
            have x2 := aW.idx i a2n
            have q2 : W[i]? = some W[i] := List.getElem?_eq_getElem a2n
            generalize hww : W[i] = w at g2 q2
            have wl : (wideS (w : Int)).length = 8 := rfl
            have hr : rnd L S W i = textS s ++ (wideS (w : Int)) := by simp [rnd, q0, q1, q2]
            rw [hr] at hrnd; rw [hrnd] at hb
            have sz1 : ¬ 9223372036854775807 < (b.length : Int) + (textS s).length := by rw [tlen]; omega
            have sz2 : ¬ 9223372036854775807 < (b.length : Int) + (textS s).length + (wideS (w : Int)).length := by rw [tlen, wl]; omega
            simp [yld_some, exec_reg, exec_dreg, exec_seq, exec_cond, exec_block, exec_scope, exec_exit, exec_ret, exec_skip, exec_loop, ops_nil, ops_cons, ops_cons_gd, stages_nil, stages_cons_n, stages_cons_h, recheck, wantsOp, AV.same, sames, evalOp_p, evalOp_r, evalOp_a, evalOp_call, evalOp_callV, evalOp_store, evalOp_append, evalOp_clear, evalOp_mapUpdate, evalOp_delete, pP_move, pP_pick, pP_build, pP_nil_ptr, pP_nil_func, pP_bin, pP_eq, pP_neg, pP_inv, pP_not, pP_convInt, pP_convStr, pP_fieldAddr, pP_field, pP_indexAddr, pP_indexStr, pP_sliceStr, pP_sliceSl, pP_lenStr, pP_lenNil, pP_lenSl, pP_min, pP_max, pP_extract, pP_mkfn, bV_add, bV_sub, bV_mul, bV_quo, bV_rem, bV_and, bV_or, bV_xor, bV_andNot, bV_eql, bV_neq, bV_lss, bV_leq, bV_gtr, bV_geq, bV_shl, bV_shr, bV_str, eV_bool, eV_nn, eV_np, eV_pn, eV_snn, eV_sns, eV_ssn, eV_mnn, eV_mnm, eV_mmn, eV_fnn, eV_fnf, eV_ffn, eV_agg, rP_load, rP_lenNil, rP_str0, rdEl_K, rdK_row, aP_alloc, aP_box, aP_buildSlice, aP_makeSlice, aP_makeMap, aP_toBytes, hP_store, storeK_some, st_K, stK_row, stE_some, cells_agg, cells_bool, scalar_bool, cells_int, scalar_int, cells_str, scalar_str, cells_nilptr, scalar_nilptr, cells_ptr, scalar_ptr, cells_nilslice, scalar_nilslice, cells_slice, scalar_slice, cells_nilmap, scalar_nilmap, cells_map, scalar_map, cells_nilfunc, scalar_nilfunc, cells_func, scalar_func, eqCells, eqLeaf, run_toL, toL_some, ev_toL, getD_toL, put_toL, keep_toL, asc, fput_same, fput_ne, fbase_nil, fbase_cons, fkeep_nil, fkeep_cons, fzero, fnone, List.map_cons, List.map_nil, ev_lit, put_none, resVals, resVal, resOf, partV, fillA, putCells, fillEls, strBin, minV, optNat, appendEls, elsOf, sliceSlV, sliceStrV, List.replicate, List.getElem?_append_left, List.getElem?_append_right, List.set_append_left, List.set_append_right, List.getElem?_set_self, List.getElem?_set_ne, hq_get0, hq_get, hq_get2, hq_get3, hp_get0, hp_get, hp_get2, hp_get3, hp_set0, hp_set, hp_set2, hp_set3, wr_0, wr_1, wr_2, wr_3, wr_4, wr_n1, e1_9, e1_10, e1_11, e1_14, e1_16, e1_17, e1_19, e1_21, e1_23, e1_24, ex0, exG, exR, f0, f1, f2, f7, f8, l0, l1, l2, hw, i30, i30n, bl48, a0, a0i, a1, a1i, g1, x1, c0, c0i, a2, a2i, g2, x2, sz1, sz2]
            refine ⟨30 - (i + 1), by omega, hJ _ _ _ ⟨_, i + 1, _, rfl, rfl, by omega, rfl, rfl, rfl, rfl, rfl, ?_, ?_, ?_, ?_, rfl⟩⟩
            · rw [← hb]; simp
            · simp only [List.length_append, tlen, wl]; omega
            · refine hstep0 ?_
              intro v hv1; rw [q0] at hv1; cases hv1
            · refine hstep1 ?_
              intro v hv1; rw [q1] at hv1; cases hv1; omega
          · have a2 : decide (i < W.length) = false := dec_false a2n
            have a2i : decide ((i : Int) < W.length) = false := dec_false (by omega)
            have q2 : W[i]? = none := List.getElem?_eq_none (by omega)
            have hr : rnd L S W i = textS s := by simp [rnd, q0, q1, q2]
            rw [hr] at hrnd; rw [hrnd] at hb
            have sz1 : ¬ 9223372036854775807 < (b.length : Int) + (textS s).length := by rw [tlen]; omega
            simp [yld_some, exec_reg, exec_dreg, exec_seq, exec_cond, exec_block, exec_scope, exec_exit, exec_ret, exec_skip, exec_loop, ops_nil, ops_cons, ops_cons_gd, stages_nil, stages_cons_n, stages_cons_h, recheck, wantsOp, AV.same, sames, evalOp_p, evalOp_r, evalOp_a, evalOp_call, evalOp_callV, evalOp_store, evalOp_append, evalOp_clear, evalOp_mapUpdate, evalOp_delete, pP_move, pP_pick, pP_build, pP_nil_ptr, pP_nil_func, pP_bin, pP_eq, pP_neg, pP_inv, pP_not, pP_convInt, pP_convStr, pP_fieldAddr, pP_field, pP_indexAddr, pP_indexStr, pP_sliceStr, pP_sliceSl, pP_lenStr, pP_lenNil, pP_lenSl, pP_min, pP_max, pP_extract, pP_mkfn, bV_add, bV_sub, bV_mul, bV_quo, bV_rem, bV_and, bV_or, bV_xor, bV_andNot, bV_eql, bV_neq, bV_lss, bV_leq, bV_gtr, bV_geq, bV_shl, bV_shr, bV_str, eV_bool, eV_nn, eV_np, eV_pn, eV_snn, eV_sns, eV_ssn, eV_mnn, eV_mnm, eV_mmn, eV_fnn, eV_fnf, eV_ffn, eV_agg, rP_load, rP_lenNil, rP_str0, rdEl_K, rdK_row, aP_alloc, aP_box, aP_buildSlice, aP_makeSlice, aP_makeMap, aP_toBytes, hP_store, storeK_some, st_K, stK_row, stE_some, cells_agg, cells_bool, scalar_bool, cells_int, scalar_int, cells_str, scalar_str, cells_nilptr, scalar_nilptr, cells_ptr, scalar_ptr, cells_nilslice, scalar_nilslice, cells_slice, scalar_slice, cells_nilmap, scalar_nilmap, cells_map, scalar_map, cells_nilfunc, scalar_nilfunc, cells_func, scalar_func, eqCells, eqLeaf, run_toL, toL_some, ev_toL, getD_toL, put_toL, keep_toL, asc, fput_same, fput_ne, fbase_nil, fbase_cons, fkeep_nil, fkeep_cons, fzero, fnone, List.map_cons, List.map_nil, ev_lit, put_none, resVals, resVal, resOf, partV, fillA, putCells, fillEls, strBin, minV, optNat, appendEls, elsOf, sliceSlV, sliceStrV, List.replicate, List.getElem?_append_left, List.getElem?_append_right, List.set_append_left, List.set_append_right, List.getElem?_set_self, List.getElem?_set_ne, hq_get0, hq_get, hq_get2, hq_get3, hp_get0, hp_get, hp_get2, hp_get3, hp_set0, hp_set, hp_set2, hp_set3, wr_0, wr_1, wr_2, wr_3, wr_4, wr_n1, e1_9, e1_10, e1_11, e1_14, e1_16, e1_17, e1_19, e1_21, e1_23, e1_24, ex0, exG, exR, f0, f1, f2, f7, f8, l0, l1, l2, hw, i30, i30n, bl48, a0, a0i, a1, a1i, g1, x1, c0, c0i, a2, a2i, sz1]
            refine ⟨30 - (i + 1), by omega, hJ _ _ _ ⟨_, i + 1, _, rfl, rfl, by omega, rfl, rfl, rfl, rfl, rfl, ?_, ?_, ?_, ?_, rfl⟩⟩
            · rw [← hb]; simp
            · simp only [List.length_append, tlen]; omega
            · refine hstep0 ?_
              intro v hv1; rw [q0] at hv1; cases hv1
            · refine hstep1 ?_
              intro v hv1; rw [q1] at hv1; cases hv1; omega
        · have a1 : decide (i < S.length) = false := dec_false a1n
          have a1i : decide ((i : Int) < S.length) = false := dec_false (by omega)
          have q1 : S[i]? = none := List.getElem?_eq_none (by omega)
          by_cases a2n : i < W.length
          · have a2 : decide (i < W.length) = true := dec_true a2n
            have a2i : decide ((i : Int) < W.length) = true := dec_true (by omega)
            have g2 := aW.get i a2n
            have x2 := aW.idx i a2n
            have q2 : W[i]? = some W[i] := List.getElem?_eq_getElem a2n
            generalize hww : W[i] = w at g2 q2
            have wl : (wideS (w : Int)).length = 8 := rfl
            have hr : rnd L S W i = wideS (w : Int) := by simp [rnd, q0, q1, q2]
            rw [hr] at hrnd; rw [hrnd] at hb
            have sz1 : ¬ 9223372036854775807 < (b.length : Int) + (wideS (w : Int)).length := by rw [wl]; omega
            simp [yld_some, exec_reg, exec_dreg, exec_seq, exec_cond, exec_block, exec_scope, exec_exit, exec_ret, exec_skip, exec_loop, ops_nil, ops_cons, ops_cons_gd, stages_nil, stages_cons_n, stages_cons_h, recheck, wantsOp, AV.same, sames, evalOp_p, evalOp_r, evalOp_a, evalOp_call, evalOp_callV, evalOp_store, evalOp_append, evalOp_clear, evalOp_mapUpdate, evalOp_delete, pP_move, pP_pick, pP_build, pP_nil_ptr, pP_nil_func, pP_bin, pP_eq, pP_neg, pP_inv, pP_not, pP_convInt, pP_convStr, pP_fieldAddr, pP_field, pP_indexAddr, pP_indexStr, pP_sliceStr, pP_sliceSl, pP_lenStr, pP_lenNil, pP_lenSl, pP_min, pP_max, pP_extract, pP_mkfn, bV_add, bV_sub, bV_mul, bV_quo, bV_rem, bV_and, bV_or, bV_xor, bV_andNot, bV_eql, bV_neq, bV_lss, bV_leq, bV_gtr, bV_geq, bV_shl, bV_shr, bV_str, eV_bool, eV_nn, eV_np, eV_pn, eV_snn, eV_sns, eV_ssn, eV_mnn, eV_mnm, eV_mmn, eV_fnn, eV_fnf, eV_ffn, eV_agg, rP_load, rP_lenNil, rP_str0, rdEl_K, rdK_row, aP_alloc, aP_box, aP_buildSlice, aP_makeSlice, aP_makeMap, aP_toBytes, hP_store, storeK_some, st_K, stK_row, stE_some, cells_agg, cells_bool, scalar_bool, cells_int, scalar_int, cells_str, scalar_str, cells_nilptr, scalar_nilptr, cells_ptr, scalar_ptr, cells_nilslice, scalar_nilslice, cells_slice, scalar_slice, cells_nilmap, scalar_nilmap, cells_map, scalar_map, cells_nilfunc, scalar_nilfunc, cells_func, scalar_func, eqCells, eqLeaf, run_toL, toL_some, ev_toL, getD_toL, put_toL, keep_toL, asc, fput_same, fput_ne, fbase_nil, fbase_cons, fkeep_nil, fkeep_cons, fzero, fnone, List.map_cons, List.map_nil, ev_lit, put_none, resVals, resVal, resOf, partV, fillA, putCells, fillEls, strBin, minV, optNat, appendEls, elsOf, sliceSlV, sliceStrV, List.replicate, List.getElem?_append_left, List.getElem?_append_right, List.set_append_left, List.set_append_right, List.getElem?_set_self, List.getElem?_set_ne, hq_get0, hq_get, hq_get2, hq_get3, hp_get0, hp_get, hp_get2, hp_get3, hp_set0, hp_set, hp_set2, hp_set3, wr_0, wr_1, wr_2, wr_3, wr_4, wr_n1, e1_9, e1_10, e1_11, e1_14, e1_16, e1_17, e1_19, e1_21, e1_23, e1_24, ex0, exG, exR, f0, f1, f2, f7, f8, l0, l1, l2, hw, i30, i30n, bl48, a0, a0i, a1, a1i, a2, a2i, g2, x2, sz1]
            refine ⟨30 - (i + 1), by omega, hJ _ _ _ ⟨_, i + 1, _, rfl, rfl, by omega, rfl, rfl, rfl, rfl, rfl, ?_, ?_, ?_, ?_, rfl⟩⟩
            · rw [← hb]; simp
            · simp only [List.length_append, wl]; omega
            · refine hstep0 ?_
              intro v hv1; rw [q0] at hv1; cases hv1
            · refine hstep1 ?_
              intro v hv1; rw [q1] at hv1; cases hv1
          · have a2 : decide (i < W.length) = false := dec_false a2n
            have a2i : decide ((i : Int) < W.length) = false := dec_false (by omega)
            have q2 : W[i]? = none := List.getElem?_eq_none (by omega)
            have hr : rnd L S W i = [] := by simp [rnd, q0, q1, q2]
            rw [hr] at hrnd; rw [hrnd] at hb
            simp [yld_some, exec_reg, exec_dreg, exec_seq, exec_cond, exec_block, exec_scope, exec_exit, exec_ret, exec_skip, exec_loop, ops_nil, ops_cons, ops_cons_gd, stages_nil, stages_cons_n, stages_cons_h, recheck, wantsOp, AV.same, sames, evalOp_p, evalOp_r, evalOp_a, evalOp_call, evalOp_callV, evalOp_store, evalOp_append, evalOp_clear, evalOp_mapUpdate, evalOp_delete, pP_move, pP_pick, pP_build, pP_nil_ptr, pP_nil_func, pP_bin, pP_eq, pP_neg, pP_inv, pP_not, pP_convInt, pP_convStr, pP_fieldAddr, pP_field, pP_indexAddr, pP_indexStr, pP_sliceStr, pP_sliceSl, pP_lenStr, pP_lenNil, pP_lenSl, pP_min, pP_max, pP_extract, pP_mkfn, bV_add, bV_sub, bV_mul, bV_quo, bV_rem, bV_and, bV_or, bV_xor, bV_andNot, bV_eql, bV_neq, bV_lss, bV_leq, bV_gtr, bV_geq, bV_shl, bV_shr, bV_str, eV_bool, eV_nn, eV_np, eV_pn, eV_snn, eV_sns, eV_ssn, eV_mnn, eV_mnm, eV_mmn, eV_fnn, eV_fnf, eV_ffn, eV_agg, rP_load, rP_lenNil, rP_str0, rdEl_K, rdK_row, aP_alloc, aP_box, aP_buildSlice, aP_makeSlice, aP_makeMap, aP_toBytes, hP_store, storeK_some, st_K, stK_row, stE_some, cells_agg, cells_bool, scalar_bool, cells_int, scalar_int, cells_str, scalar_str, cells_nilptr, scalar_nilptr, cells_ptr, scalar_ptr, cells_nilslice, scalar_nilslice, cells_slice, scalar_slice, cells_nilmap, scalar_nilmap, cells_map, scalar_map, cells_nilfunc, scalar_nilfunc, cells_func, scalar_func, eqCells, eqLeaf, run_toL, toL_some, ev_toL, getD_toL, put_toL, keep_toL, asc, fput_same, fput_ne, fbase_nil, fbase_cons, fkeep_nil, fkeep_cons, fzero, fnone, List.map_cons, List.map_nil, ev_lit, put_none, resVals, resVal, resOf, partV, fillA, putCells, fillEls, strBin, minV, optNat, appendEls, elsOf, sliceSlV, sliceStrV, List.replicate, List.getElem?_append_left, List.getElem?_append_right, List.set_append_left, List.set_append_right, List.getElem?_set_self, List.getElem?_set_ne, hq_get0, hq_get, hq_get2, hq_get3, hp_get0, hp_get, hp_get2, hp_get3, hp_set0, hp_set, hp_set2, hp_set3, wr_0, wr_1, wr_2, wr_3, wr_4, wr_n1, e1_9, e1_10, e1_11, e1_14, e1_16, e1_17, e1_19, e1_21, e1_23, e1_24, ex0, exG, exR, f0, f1, f2, f7, f8, l0, l1, l2, hw, i30, i30n, bl48, a0, a0i, a1, a1i, a2, a2i]
            refine ⟨30 - (i + 1), by omega, hJ _ _ _ ⟨_, i + 1, _, rfl, rfl, by omega, rfl, rfl, rfl, rfl, rfl, ?_, ?_, ?_, ?_, rfl⟩⟩
            · simpa using hb
            · omega
            · refine hstep0 ?_
              intro v hv1; rw [q0] at hv1; cases hv1
            · refine hstep1 ?_
              intro v hv1; rw [q1] at hv1; cases hv1
      --end1
    · have hin : i = 30 := by omega
      subst hin
      have hbb : b = tl L S W 30 := by simpa [tl] using hb
      subst hbb
      simp [yld_some, exec_reg, exec_dreg, exec_seq, exec_cond, exec_block, exec_scope, exec_exit, exec_ret, exec_skip, exec_loop, ops_nil, ops_cons, ops_cons_gd, stages_nil, stages_cons_n, stages_cons_h, recheck, wantsOp, AV.same, sames, evalOp_p, evalOp_r, evalOp_a, evalOp_call, evalOp_callV, evalOp_store, evalOp_append, evalOp_clear, evalOp_mapUpdate, evalOp_delete, pP_move, pP_pick, pP_build, pP_nil_ptr, pP_nil_func, pP_bin, pP_eq, pP_neg, pP_inv, pP_not, pP_convInt, pP_convStr, pP_fieldAddr, pP_field, pP_indexAddr, pP_indexStr, pP_sliceStr, pP_sliceSl, pP_lenStr, pP_lenNil, pP_lenSl, pP_min, pP_max, pP_extract, pP_mkfn, bV_add, bV_sub, bV_mul, bV_quo, bV_rem, bV_and, bV_or, bV_xor, bV_andNot, bV_eql, bV_neq, bV_lss, bV_leq, bV_gtr, bV_geq, bV_shl, bV_shr, bV_str, eV_bool, eV_nn, eV_np, eV_pn, eV_snn, eV_sns, eV_ssn, eV_mnn, eV_mnm, eV_mmn, eV_fnn, eV_fnf, eV_ffn, eV_agg, rP_load, rP_lenNil, rP_str0, rdEl_K, rdK_row, aP_alloc, aP_box, aP_buildSlice, aP_makeSlice, aP_makeMap, aP_toBytes, hP_store, storeK_some, st_K, stK_row, stE_some, cells_agg, cells_bool, scalar_bool, cells_int, scalar_int, cells_str, scalar_str, cells_nilptr, scalar_nilptr, cells_ptr, scalar_ptr, cells_nilslice, scalar_nilslice, cells_slice, scalar_slice, cells_nilmap, scalar_nilmap, cells_map, scalar_map, cells_nilfunc, scalar_nilfunc, cells_func, scalar_func, eqCells, eqLeaf, run_toL, toL_some, ev_toL, getD_toL, put_toL, keep_toL, asc, fput_same, fput_ne, fbase_nil, fbase_cons, fkeep_nil, fkeep_cons, fzero, fnone, List.map_cons, List.map_nil, ev_lit, put_none, resVals, resVal, resOf, partV, fillA, putCells, fillEls, strBin, minV, optNat, appendEls, elsOf, sliceSlV, sliceStrV, List.replicate, List.getElem?_append_left, List.getElem?_append_right, List.set_append_left, List.set_append_right, List.getElem?_set_self, List.getElem?_set_ne, hq_get0, hq_get, hq_get2, hq_get3, hp_get0, hp_get, hp_get2, hp_get3, hp_set0, hp_set, hp_set2, hp_set3, wr_0, wr_1, wr_2, wr_3, wr_4, wr_n1, f0, f1, f2, f7, f8]
      refine hR _ ?_
      have htl := tl_len L S W hso
      have hb48 : (tl L S W 30).length ≤ 281474976710656 := by have := htl 30 (Nat.le_refl _); omega
      simp [yld_some, exec_reg, exec_dreg, exec_seq, exec_cond, exec_block, exec_scope, exec_exit, exec_ret, exec_skip, exec_loop, ops_nil, ops_cons, ops_cons_gd, stages_nil, stages_cons_n, stages_cons_h, recheck, wantsOp, AV.same, sames, evalOp_p, evalOp_r, evalOp_a, evalOp_call, evalOp_callV, evalOp_store, evalOp_append, evalOp_clear, evalOp_mapUpdate, evalOp_delete, pP_move, pP_pick, pP_build, pP_nil_ptr, pP_nil_func, pP_bin, pP_eq, pP_neg, pP_inv, pP_not, pP_convInt, pP_convStr, pP_fieldAddr, pP_field, pP_indexAddr, pP_indexStr, pP_sliceStr, pP_sliceSl, pP_lenStr, pP_lenNil, pP_lenSl, pP_min, pP_max, pP_extract, pP_mkfn, bV_add, bV_sub, bV_mul, bV_quo, bV_rem, bV_and, bV_or, bV_xor, bV_andNot, bV_eql, bV_neq, bV_lss, bV_leq, bV_gtr, bV_geq, bV_shl, bV_shr, bV_str, eV_bool, eV_nn, eV_np, eV_pn, eV_snn, eV_sns, eV_ssn, eV_mnn, eV_mnm, eV_mmn, eV_fnn, eV_fnf, eV_ffn, eV_agg, rP_load, rP_lenNil, rP_str0, rdEl_K, rdK_row, aP_alloc, aP_box, aP_buildSlice, aP_makeSlice, aP_makeMap, aP_toBytes, hP_store, storeK_some, st_K, stK_row, stE_some, cells_agg, cells_bool, scalar_bool, cells_int, scalar_int, cells_str, scalar_str, cells_nilptr, scalar_nilptr, cells_ptr, scalar_ptr, cells_nilslice, scalar_nilslice, cells_slice, scalar_slice, cells_nilmap, scalar_nilmap, cells_map, scalar_map, cells_nilfunc, scalar_nilfunc, cells_func, scalar_func, eqCells, eqLeaf, run_toL, toL_some, ev_toL, getD_toL, put_toL, keep_toL, asc, fput_same, fput_ne, fbase_nil, fbase_cons, fkeep_nil, fkeep_cons, fzero, fnone, List.map_cons, List.map_nil, ev_lit, put_none, resVals, resVal, resOf, partV, fillA, putCells, fillEls, strBin, minV, optNat, appendEls, elsOf, sliceSlV, sliceStrV, List.replicate, List.getElem?_append_left, List.getElem?_append_right, List.set_append_left, List.set_append_right, List.getElem?_set_self, List.getElem?_set_ne, hq_get0, hq_get, hq_get2, hq_get3, hp_get0, hp_get, hp_get2, hp_get3, hp_set0, hp_set, hp_set2, hp_set3, wr_0, wr_1, wr_2, wr_3, wr_4, wr_n1, e1_9, e1_10, e1_11, e1_14, e1_16, e1_17, e1_19, e1_21, e1_23, e1_24, ex0, exG, exR, f0, f1, f2, f7, f8, hb48]
      repeat (first | apply yld_endFn | apply yld_seqK | apply yld_blockK | apply yld_regK | apply yld_opsK | apply yld_putK | apply yld_stgK | apply yld_chkK)
      clear f0 f1 f2 f7 f8 hb hbl hJ hR
      refine yld_rounds (fun z e kk => ∃ f i, e = toL 158 f ∧ z = 30 - i ∧ i ≤ 30 ∧ f 0 = v0 ∧ f 1 = v1 ∧ f 2 = v2 ∧ f 13 = .ptr h.length 0 0 ∧ f 14 = .int .i64 (i : Nat) ∧ kk = h ++ [Rd.blk ⟨tl L S W (30 - i), false⟩]) (30 - 0) ?_ ?_
      · exact ⟨_, 0, rfl, rfl, Nat.zero_le _, rfl, rfl, rfl, rfl, rfl, rfl⟩
      · rintro J R hJ hR z e kk ⟨f, i, rfl, rfl, hi, f0, f1, f2, f13, f14, rfl⟩
        by_cases hil : i < 30
        · have hw : IntKind.i64.wrap ((i : Int) + 1) = ((i + 1 : Nat) : Int) := wrap_i64 (by omega) (by omega)
          have hrnd := tl_at L S W hil
          have i30 : decide ((i : Int) < 30) = true := dec_true (by omega)
          have i30n : decide (i < 30) = true := dec_true hil
          have htn := htl (30 - (i + 1)) (by omega)
          have nl : ∀ n : Int, (numS n).length = 2 := fun _ => rfl
          have tlen : ∀ s, (textS s).length = s.length + 1 := fun _ => rfl
          have wl : ∀ n : Int, (wideS n).length = 8 := fun _ => rfl
          --cases2
          by_cases a0n : i < L.length
          · have a0 : decide (i < L.length) = true := dec_true a0n
            have a0i : decide ((i : Int) < L.length) = true := dec_true (by omega)
            have g0 : ∀ X, rdK i (h ++ [X])[slB v0]? = _ := fun X => (aL.more [X]).get i a0n
            have x0 := aL.idx i a0n
            have q0 : L[i]? = some L[i] := List.getElem?_eq_getElem a0n
            generalize hv : L[i] = v at g0 q0
            obtain ⟨n, rfl, hn⟩ := hlo i v hil q0
            have e17 := fun t ht => rd17 h n t hn ht
            by_cases a1n : i < S.length
            · have a1 : decide (i < S.length) = true := dec_true a1n
              have a1i : decide ((i : Int) < S.length) = true := dec_true (by omega)
              have g1 : ∀ X, rdK i (h ++ [X])[slB v1]? = _ := fun X => (aS.more [X]).get i a1n
              have x1 := aS.idx i a1n
              have q1 : S[i]? = some S[i] := List.getElem?_eq_getElem a1n
              generalize hs : S[i] = s at g1 q1
              have hsl := hso i s hil q1
              have e19 := fun t ht => rd19 h s t hsl ht
              by_cases a2n : i < W.length
              · have a2 : decide (i < W.length) = true := dec_true a2n
                have a2i : decide ((i : Int) < W.length) = true := dec_true (by omega)
                have g2 : ∀ X, rdK i (h ++ [X])[slB v2]? = _ := fun X => (aW.more [X]).get i a2n
                have x2 := aW.idx i a2n
                have q2 : W[i]? = some W[i] := List.getElem?_eq_getElem a2n
                have hwb := hW _ (List.getElem_mem a2n)
                generalize hww : W[i] = w at g2 q2 hwb
                have e21 := fun t ht => rd21 h w t hwb ht
                have hr : rnd L S W i = numS (n : Int) ++ (textS s ++ (wideS (w : Int))) := by simp [rnd, q0, q1, q2]
                rw [hr] at hrnd
                have ke21 := e21 (tl L S W (30 - (i + 1))) (by simp only [List.length_append, nl, tlen, wl]; omega)
                have ke19 := e19 (wideS (w : Int) ++ tl L S W (30 - (i + 1))) (by simp only [List.length_append, nl, tlen, wl]; omega)
                have ke17 := e17 (textS s ++ (wideS (w : Int) ++ tl L S W (30 - (i + 1)))) (by simp only [List.length_append, nl, tlen, wl]; omega)
                have hE : tl L S W (30 - i) = numS (n : Int) ++ (textS s ++ (wideS (w : Int) ++ tl L S W (30 - (i + 1)))) := by rw [hrnd]; simp only [List.append_assoc]
                rw [hE]
                generalize hT : tl L S W (30 - (i + 1)) = T at ke21 ke19 ke17 ⊢
                simp [yld_some, exec_reg, exec_dreg, exec_seq, exec_cond, exec_block, exec_scope, exec_exit, exec_ret, exec_skip, exec_loop, ops_nil, ops_cons, ops_cons_gd, stages_nil, stages_cons_n, stages_cons_h, recheck, wantsOp, AV.same, sames, evalOp_p, evalOp_r, evalOp_a, evalOp_call, evalOp_callV, evalOp_store, evalOp_append, evalOp_clear, evalOp_mapUpdate, evalOp_delete, pP_move, pP_pick, pP_build, pP_nil_ptr, pP_nil_func, pP_bin, pP_eq, pP_neg, pP_inv, pP_not, pP_convInt, pP_convStr, pP_fieldAddr, pP_field, pP_indexAddr, pP_indexStr, pP_sliceStr, pP_sliceSl, pP_lenStr, pP_lenNil, pP_lenSl, pP_min, pP_max, pP_extract, pP_mkfn, bV_add, bV_sub, bV_mul, bV_quo, bV_rem, bV_and, bV_or, bV_xor, bV_andNot, bV_eql, bV_neq, bV_lss, bV_leq, bV_gtr, bV_geq, bV_shl, bV_shr, bV_str, eV_bool, eV_nn, eV_np, eV_pn, eV_snn, eV_sns, eV_ssn, eV_mnn, eV_mnm, eV_mmn, eV_fnn, eV_fnf, eV_ffn, eV_agg, rP_load, rP_lenNil, rP_str0, rdEl_K, rdK_row, aP_alloc, aP_box, aP_buildSlice, aP_makeSlice, aP_makeMap, aP_toBytes, hP_store, storeK_some, st_K, stK_row, stE_some, cells_agg, cells_bool, scalar_bool, cells_int, scalar_int, cells_str, scalar_str, cells_nilptr, scalar_nilptr, cells_ptr, scalar_ptr, cells_nilslice, scalar_nilslice, cells_slice, scalar_slice, cells_nilmap, scalar_nilmap, cells_map, scalar_map, cells_nilfunc, scalar_nilfunc, cells_func, scalar_func, eqCells, eqLeaf, run_toL, toL_some, ev_toL, getD_toL, put_toL, keep_toL, asc, fput_same, fput_ne, fbase_nil, fbase_cons, fkeep_nil, fkeep_cons, fzero, fnone, List.map_cons, List.map_nil, ev_lit, put_none, resVals, resVal, resOf, partV, fillA, putCells, fillEls, strBin, minV, optNat, appendEls, elsOf, sliceSlV, sliceStrV, List.replicate, List.getElem?_append_left, List.getElem?_append_right, List.set_append_left, List.set_append_right, List.getElem?_set_self, List.getElem?_set_ne, hq_get0, hq_get, hq_get2, hq_get3, hp_get0, hp_get, hp_get2, hp_get3, hp_set0, hp_set, hp_set2, hp_set3, wr_0, wr_1, wr_2, wr_3, wr_4, wr_n1, f0, f1, f2, f13, f14, l0, l1, l2, hw, i30, i30n, a0, a0i, g0, x0, a1, a1i, g1, x1, a2, a2i, g2, x2, ke21, ke19, ke17]
                exact ⟨30 - (i + 1), by omega, hJ _ _ _ ⟨_, i + 1, rfl, rfl, by omega, rfl, rfl, rfl, rfl, rfl, by rw [hT]⟩⟩
              · have a2 : decide (i < W.length) = false := dec_false a2n
                have a2i : decide ((i : Int) < W.length) = false := dec_false (by omega)
                have q2 : W[i]? = none := List.getElem?_eq_none (by omega)
                have hr : rnd L S W i = numS (n : Int) ++ (textS s) := by simp [rnd, q0, q1, q2]
                rw [hr] at hrnd
                have ke19 := e19 (tl L S W (30 - (i + 1))) (by simp only [List.length_append, nl, tlen, wl]; omega)
                have ke17 := e17 (textS s ++ tl L S W (30 - (i + 1))) (by simp only [List.length_append, nl, tlen, wl]; omega)
                have hE : tl L S W (30 - i) = numS (n : Int) ++ (textS s ++ tl L S W (30 - (i + 1))) := by rw [hrnd]; simp only [List.append_assoc]
                rw [hE]
                generalize hT : tl L S W (30 - (i + 1)) = T at ke19 ke17 ⊢
                simp [yld_some, exec_reg, exec_dreg, exec_seq, exec_cond, exec_block, exec_scope, exec_exit, exec_ret, exec_skip, exec_loop, ops_nil, ops_cons, ops_cons_gd, stages_nil, stages_cons_n, stages_cons_h, recheck, wantsOp, AV.same, sames, evalOp_p, evalOp_r, evalOp_a, evalOp_call, evalOp_callV, evalOp_store, evalOp_append, evalOp_clear, evalOp_mapUpdate, evalOp_delete, pP_move, pP_pick, pP_build, pP_nil_ptr, pP_nil_func, pP_bin, pP_eq, pP_neg, pP_inv, pP_not, pP_convInt, pP_convStr, pP_fieldAddr, pP_field, pP_indexAddr, pP_indexStr, pP_sliceStr, pP_sliceSl, pP_lenStr, pP_lenNil, pP_lenSl, pP_min, pP_max, pP_extract, pP_mkfn, bV_add, bV_sub, bV_mul, bV_quo, bV_rem, bV_and, bV_or, bV_xor, bV_andNot, bV_eql, bV_neq, bV_lss, bV_leq, bV_gtr, bV_geq, bV_shl, bV_shr, bV_str, eV_bool, eV_nn, eV_np, eV_pn, eV_snn, eV_sns, eV_ssn, eV_mnn, eV_mnm, eV_mmn, eV_fnn, eV_fnf, eV_ffn, eV_agg, rP_load, rP_lenNil, rP_str0, rdEl_K, rdK_row, aP_alloc, aP_box, aP_buildSlice, aP_makeSlice, aP_makeMap, aP_toBytes, hP_store, storeK_some, st_K, stK_row, stE_some, cells_agg, cells_bool, scalar_bool, cells_int, scalar_int, cells_str, scalar_str, cells_nilptr, scalar_nilptr, cells_ptr, scalar_ptr, cells_nilslice, scalar_nilslice, cells_slice, scalar_slice, cells_nilmap, scalar_nilmap, cells_map, scalar_map, cells_nilfunc, scalar_nilfunc, cells_func, scalar_func, eqCells, eqLeaf, run_toL, toL_some, ev_toL, getD_toL, put_toL, keep_toL, asc, fput_same, fput_ne, fbase_nil, fbase_cons, fkeep_nil, fkeep_cons, fzero, fnone, List.map_cons, List.map_nil, ev_lit, put_none, resVals, resVal, resOf, partV, fillA, putCells, fillEls, strBin, minV, optNat, appendEls, elsOf, sliceSlV, sliceStrV, List.replicate, List.getElem?_append_left, List.getElem?_append_right, List.set_append_left, List.set_append_right, List.getElem?_set_self, List.getElem?_set_ne, hq_get0, hq_get, hq_get2, hq_get3, hp_get0, hp_get, hp_get2, hp_get3, hp_set0, hp_set, hp_set2, hp_set3, wr_0, wr_1, wr_2, wr_3, wr_4, wr_n1, f0, f1, f2, f13, f14, l0, l1, l2, hw, i30, i30n, a0, a0i, g0, x0, a1, a1i, g1, x1, a2, a2i, ke19, ke17]
                exact ⟨30 - (i + 1), by omega, hJ _ _ _ ⟨_, i + 1, rfl, rfl, by omega, rfl, rfl, rfl, rfl, rfl, by rw [hT]⟩⟩
            · have a1 : decide (i < S.length) = false := dec_false a1n
              have a1i : decide ((i : Int) < S.length) = false := dec_false (by omega)
              have q1 : S[i]? = none := List.getElem?_eq_none (by omega)
              by_cases a2n : i < W.length
              · have a2 : decide (i < W.length) = true := dec_true a2n
                have a2i : decide ((i : Int) < W.length) = true := dec_true (by omega)
                have g2 : ∀ X, rdK i (h ++ [X])[slB v2]? = _ := fun X => (aW.more [X]).get i a2n
                have x2 := aW.idx i a2n
                have q2 : W[i]? = some W[i] := List.getElem?_eq_getElem a2n
                have hwb := hW _ (List.getElem_mem a2n)
                generalize hww : W[i] = w at g2 q2 hwb
                have e21 := fun t ht => rd21 h w t hwb ht
                have hr : rnd L S W i = numS (n : Int) ++ (wideS (w : Int)) := by simp [rnd, q0, q1, q2]
                rw [hr] at hrnd
                have ke21 := e21 (tl L S W (30 - (i + 1))) (by simp only [List.length_append, nl, tlen, wl]; omega)
                have ke17 := e17 (wideS (w : Int) ++ tl L S W (30 - (i + 1))) (by simp only [List.length_append, nl, tlen, wl]; omega)
                have hE : tl L S W (30 - i) = numS (n : Int) ++ (wideS (w : Int) ++ tl L S W (30 - (i + 1))) := by rw [hrnd]; simp only [List.append_assoc]
                rw [hE]
                generalize hT : tl L S W (30 - (i + 1)) = T at ke21 ke17 ⊢
                simp [yld_some, exec_reg, exec_dreg, exec_seq, exec_cond, exec_block, exec_scope, exec_exit, exec_ret, exec_skip, exec_loop, ops_nil, ops_cons, ops_cons_gd, stages_nil, stages_cons_n, stages_cons_h, recheck, wantsOp, AV.same, sames, evalOp_p, evalOp_r, evalOp_a, evalOp_call, evalOp_callV, evalOp_store, evalOp_append, evalOp_clear, evalOp_mapUpdate, evalOp_delete, pP_move, pP_pick, pP_build, pP_nil_ptr, pP_nil_func, pP_bin, pP_eq, pP_neg, pP_inv, pP_not, pP_convInt, pP_convStr, pP_fieldAddr, pP_field, pP_indexAddr, pP_indexStr, pP_sliceStr, pP_sliceSl, pP_lenStr, pP_lenNil, pP_lenSl, pP_min, pP_max, pP_extract, pP_mkfn, bV_add, bV_sub, bV_mul, bV_quo, bV_rem, bV_and, bV_or, bV_xor, bV_andNot, bV_eql, bV_neq, bV_lss, bV_leq, bV_gtr, bV_geq, bV_shl, bV_shr, bV_str, eV_bool, eV_nn, eV_np, eV_pn, eV_snn, eV_sns, eV_ssn, eV_mnn, eV_mnm, eV_mmn, eV_fnn, eV_fnf, eV_ffn, eV_agg, rP_load, rP_lenNil, rP_str0, rdEl_K, rdK_row, aP_alloc, aP_box, aP_buildSlice, aP_makeSlice, aP_makeMap, aP_toBytes, hP_store, storeK_some, st_K, stK_row, stE_some, cells_agg, cells_bool, scalar_bool, cells_int, scalar_int, cells_str, scalar_str, cells_nilptr, scalar_nilptr, cells_ptr, scalar_ptr, cells_nilslice, scalar_nilslice, cells_slice, scalar_slice, cells_nilmap, scalar_nilmap, cells_map, scalar_map, cells_nilfunc, scalar_nilfunc, cells_func, scalar_func, eqCells, eqLeaf, run_toL, toL_some, ev_toL, getD_toL, put_toL, keep_toL, asc, fput_same, fput_ne, fbase_nil, fbase_cons, fkeep_nil, fkeep_cons, fzero, fnone, List.map_cons, List.map_nil, ev_lit, put_none, resVals, resVal, resOf, partV, fillA, putCells, fillEls, strBin, minV, optNat, appendEls, elsOf, sliceSlV, sliceStrV, List.replicate, List.getElem?_append_left, List.getElem?_append_right, List.set_append_left, List.set_append_right, List.getElem?_set_self, List.getElem?_set_ne, hq_get0, hq_get, hq_get2, hq_get3, hp_get0, hp_get, hp_get2, hp_get3, hp_set0, hp_set, hp_set2, hp_set3, wr_0, wr_1, wr_2, wr_3, wr_4, wr_n1, f0, f1, f2, f13, f14, l0, l1, l2, hw, i30, i30n, a0, a0i, g0, x0, a1, a1i, a2, a2i, g2, x2, ke21, ke17]
                exact ⟨30 - (i + 1), by omega, hJ _ _ _ ⟨_, i + 1, rfl, rfl, by omega, rfl, rfl, rfl, rfl, rfl, by rw [hT]⟩⟩
              · have a2 : decide (i < W.length) = false := dec_false a2n
                have a2i : decide ((i : Int) < W.length) = false := dec_false (by omega)
                have q2 : W[i]? = none := List.getElem?_eq_none (by omega)
                have hr : rnd L S W i = numS (n : Int) := by simp [rnd, q0, q1, q2]
                rw [hr] at hrnd
                have ke17 := e17 (tl L S W (30 - (i + 1))) (by simp only [List.length_append, nl, tlen, wl]; omega)
                have hE : tl L S W (30 - i) = numS (n : Int) ++ tl L S W (30 - (i + 1)) := by rw [hrnd]
                rw [hE]
                generalize hT : tl L S W (30 - (i + 1)) = T at ke17 ⊢
                simp [yld_some, exec_reg, exec_dreg, exec_seq, exec_cond, exec_block, exec_scope, exec_exit, exec_ret, exec_skip, exec_loop, ops_nil, ops_cons, ops_cons_gd, stages_nil, stages_cons_n, stages_cons_h, recheck, wantsOp, AV.same, sames, evalOp_p, evalOp_r, evalOp_a, evalOp_call, evalOp_callV, evalOp_store, evalOp_append, evalOp_clear, evalOp_mapUpdate, evalOp_delete, pP_move, pP_pick, pP_build, pP_nil_ptr, pP_nil_func, pP_bin, pP_eq, pP_neg, pP_inv, pP_not, pP_convInt, pP_convStr, pP_fieldAddr, pP_field, pP_indexAddr, pP_indexStr, pP_sliceStr, pP_sliceSl, pP_lenStr, pP_lenNil, pP_lenSl, pP_min, pP_max, pP_extract, pP_mkfn, bV_add, bV_sub, bV_mul, bV_quo, bV_rem, bV_and, bV_or, bV_xor, bV_andNot, bV_eql, bV_neq, bV_lss, bV_leq, bV_gtr, bV_geq, bV_shl, bV_shr, bV_str, eV_bool, eV_nn, eV_np, eV_pn, eV_snn, eV_sns, eV_ssn, eV_mnn, eV_mnm, eV_mmn, eV_fnn, eV_fnf, eV_ffn, eV_agg, rP_load, rP_lenNil, rP_str0, rdEl_K, rdK_row, aP_alloc, aP_box, aP_buildSlice, aP_makeSlice, aP_makeMap, aP_toBytes, hP_store, storeK_some, st_K, stK_row, stE_some, cells_agg, cells_bool, scalar_bool, cells_int, scalar_int, cells_str, scalar_str, cells_nilptr, scalar_nilptr, cells_ptr, scalar_ptr, cells_nilslice, scalar_nilslice, cells_slice, scalar_slice, cells_nilmap, scalar_nilmap, cells_map, scalar_map, cells_nilfunc, scalar_nilfunc, cells_func, scalar_func, eqCells, eqLeaf, run_toL, toL_some, ev_toL, getD_toL, put_toL, keep_toL, asc, fput_same, fput_ne, fbase_nil, fbase_cons, fkeep_nil, fkeep_cons, fzero, fnone, List.map_cons, List.map_nil, ev_lit, put_none, resVals, resVal, resOf, partV, fillA, putCells, fillEls, strBin, minV, optNat, appendEls, elsOf, sliceSlV, sliceStrV, List.replicate, List.getElem?_append_left, List.getElem?_append_right, List.set_append_left, List.set_append_right, List.getElem?_set_self, List.getElem?_set_ne, hq_get0, hq_get, hq_get2, hq_get3, hp_get0, hp_get, hp_get2, hp_get3, hp_set0, hp_set, hp_set2, hp_set3, wr_0, wr_1, wr_2, wr_3, wr_4, wr_n1, f0, f1, f2, f13, f14, l0, l1, l2, hw, i30, i30n, a0, a0i, g0, x0, a1, a1i, a2, a2i, ke17]
                exact ⟨30 - (i + 1), by omega, hJ _ _ _ ⟨_, i + 1, rfl, rfl, by omega, rfl, rfl, rfl, rfl, rfl, by rw [hT]⟩⟩
          · have a0 : decide (i < L.length) = false := dec_false a0n
            have a0i : decide ((i : Int) < L.length) = false := dec_false (by omega)
            have q0 : L[i]? = none := List.getElem?_eq_none (by omega)
            by_cases a1n : i < S.length
            · have a1 : decide (i < S.length) = true := dec_true a1n
              have a1i : decide ((i : Int) < S.length) = true := dec_true (by omega)
              have g1 : ∀ X, rdK i (h ++ [X])[slB v1]? = _ := fun X => (aS.more [X]).get i a1n
              have x1 := aS.idx i a1n
              have q1 : S[i]? = some S[i] := List.getElem?_eq_getElem a1n
              generalize hs : S[i] = s at g1 q1
              have hsl := hso i s hil q1
              have e19 := fun t ht => rd19 h s t hsl ht
              by_cases a2n : i < W.length
              · have a2 : decide (i < W.length) = true := dec_true a2n
                have a2i : decide ((i : Int) < W.length) = true := dec_true (by omega)
                have g2 : ∀ X, rdK i (h ++ [X])[slB v2]? = _ := fun X => (aW.more [X]).get i a2n
                have x2 := aW.idx i a2n
                have q2 : W[i]? = some W[i] := List.getElem?_eq_getElem a2n
                have hwb := hW _ (List.getElem_mem a2n)
                generalize hww : W[i] = w at g2 q2 hwb
                have e21 := fun t ht => rd21 h w t hwb ht
                have hr : rnd L S W i = textS s ++ (wideS (w : Int)) := by simp [rnd, q0, q1, q2]
                rw [hr] at hrnd
                have ke21 := e21 (tl L S W (30 - (i + 1))) (by simp only [List.length_append, nl, tlen, wl]; omega)
                have ke19 := e19 (wideS (w : Int) ++ tl L S W (30 - (i + 1))) (by simp only [List.length_append, nl, tlen, wl]; omega)
                have hE : tl L S W (30 - i) = textS s ++ (wideS (w : Int) ++ tl L S W (30 - (i + 1))) := by rw [hrnd]; simp only [List.append_assoc]
                rw [hE]
                generalize hT : tl L S W (30 - (i + 1)) = T at ke21 ke19 ⊢
                simp [yld_some, exec_reg, exec_dreg, exec_seq, exec_cond, exec_block, exec_scope, exec_exit, exec_ret, exec_skip, exec_loop, ops_nil, ops_cons, ops_cons_gd, stages_nil, stages_cons_n, stages_cons_h, recheck, wantsOp, AV.same, sames, evalOp_p, evalOp_r, evalOp_a, evalOp_call, evalOp_callV, evalOp_store, evalOp_append, evalOp_clear, evalOp_mapUpdate, evalOp_delete, pP_move, pP_pick, pP_build, pP_nil_ptr, pP_nil_func, pP_bin, pP_eq, pP_neg, pP_inv, pP_not, pP_convInt, pP_convStr, pP_fieldAddr, pP_field, pP_indexAddr, pP_indexStr, pP_sliceStr, pP_sliceSl, pP_lenStr, pP_lenNil, pP_lenSl, pP_min, pP_max, pP_extract, pP_mkfn, bV_add, bV_sub, bV_mul, bV_quo, bV_rem, bV_and, bV_or, bV_xor, bV_andNot, bV_eql, bV_neq, bV_lss, bV_leq, bV_gtr, bV_geq, bV_shl, bV_shr, bV_str, eV_bool, eV_nn, eV_np, eV_pn, eV_snn, eV_sns, eV_ssn, eV_mnn, eV_mnm, eV_mmn, eV_fnn, eV_fnf, eV_ffn, eV_agg, rP_load, rP_lenNil, rP_str0, rdEl_K, rdK_row, aP_alloc, aP_box, aP_buildSlice, aP_makeSlice, aP_makeMap, aP_toBytes, hP_store, storeK_some, st_K, stK_row, stE_some, cells_agg, cells_bool, scalar_bool, cells_int, scalar_int, cells_str, scalar_str, cells_nilptr, scalar_nilptr, cells_ptr, scalar_ptr, cells_nilslice, scalar_nilslice, cells_slice, scalar_slice, cells_nilmap, scalar_nilmap, cells_map, scalar_map, cells_nilfunc, scalar_nilfunc, cells_func, scalar_func, eqCells, eqLeaf, run_toL, toL_some, ev_toL, getD_toL, put_toL, keep_toL, asc, fput_same, fput_ne, fbase_nil, fbase_cons, fkeep_nil, fkeep_cons, fzero, fnone, List.map_cons, List.map_nil, ev_lit, put_none, resVals, resVal, resOf, partV, fillA, putCells, fillEls, strBin, minV, optNat, appendEls, elsOf, sliceSlV, sliceStrV, List.replicate, List.getElem?_append_left, List.getElem?_append_right, List.set_append_left, List.set_append_right, List.getElem?_set_self, List.getElem?_set_ne, hq_get0, hq_get, hq_get2, hq_get3, hp_get0, hp_get, hp_get2, hp_get3, hp_set0, hp_set, hp_set2, hp_set3, wr_0, wr_1, wr_2, wr_3, wr_4, wr_n1, f0, f1, f2, f13, f14, l0, l1, l2, hw, i30, i30n, a0, a0i, a1, a1i, g1, x1, a2, a2i, g2, x2, ke21, ke19]
                exact ⟨30 - (i + 1), by omega, hJ _ _ _ ⟨_, i + 1, rfl, rfl, by omega, rfl, rfl, rfl, rfl, rfl, by rw [hT]⟩⟩
              · have a2 : decide (i < W.length) = false := dec_false a2n
                have a2i : decide ((i : Int) < W.length) = false := dec_false (by omega)
                have q2 : W[i]? = none := List.getElem?_eq_none (by omega)
                have hr : rnd L S W i = textS s := by simp [rnd, q0, q1, q2]
                rw [hr] at hrnd
                have ke19 := e19 (tl L S W (30 - (i + 1))) (by simp only [List.length_append, nl, tlen, wl]; omega)
                have hE : tl L S W (30 - i) = textS s ++ tl L S W (30 - (i + 1)) := by rw [hrnd]
                rw [hE]
                generalize hT : tl L S W (30 - (i + 1)) = T at ke19 ⊢
                simp [yld_some, exec_reg, exec_dreg, exec_seq, exec_cond, exec_block, exec_scope, exec_exit, exec_ret, exec_skip, exec_loop, ops_nil, ops_cons, ops_cons_gd, stages_nil, stages_cons_n, stages_cons_h, recheck, wantsOp, AV.same, sames, evalOp_p, evalOp_r, evalOp_a, evalOp_call, evalOp_callV, evalOp_store, evalOp_append, evalOp_clear, evalOp_mapUpdate, evalOp_delete, pP_move, pP_pick, pP_build, pP_nil_ptr, pP_nil_func, pP_bin, pP_eq, pP_neg, pP_inv, pP_not, pP_convInt, pP_convStr, pP_fieldAddr, pP_field, pP_indexAddr, pP_indexStr, pP_sliceStr, pP_sliceSl, pP_lenStr, pP_lenNil, pP_lenSl, pP_min, pP_max, pP_extract, pP_mkfn, bV_add, bV_sub, bV_mul, bV_quo, bV_rem, bV_and, bV_or, bV_xor, bV_andNot, bV_eql, bV_neq, bV_lss, bV_leq, bV_gtr, bV_geq, bV_shl, bV_shr, bV_str, eV_bool, eV_nn, eV_np, eV_pn, eV_snn, eV_sns, eV_ssn, eV_mnn, eV_mnm, eV_mmn, eV_fnn, eV_fnf, eV_ffn, eV_agg, rP_load, rP_lenNil, rP_str0, rdEl_K, rdK_row, aP_alloc, aP_box, aP_buildSlice, aP_makeSlice, aP_makeMap, aP_toBytes, hP_store, storeK_some, st_K, stK_row, stE_some, cells_agg, cells_bool, scalar_bool, cells_int, scalar_int, cells_str, scalar_str, cells_nilptr, scalar_nilptr, cells_ptr, scalar_ptr, cells_nilslice, scalar_nilslice, cells_slice, scalar_slice, cells_nilmap, scalar_nilmap, cells_map, scalar_map, cells_nilfunc, scalar_nilfunc, cells_func, scalar_func, eqCells, eqLeaf, run_toL, toL_some, ev_toL, getD_toL, put_toL, keep_toL, asc, fput_same, fput_ne, fbase_nil, fbase_cons, fkeep_nil, fkeep_cons, fzero, fnone, List.map_cons, List.map_nil, ev_lit, put_none, resVals, resVal, resOf, partV, fillA, putCells, fillEls, strBin, minV, optNat, appendEls, elsOf, sliceSlV, sliceStrV, List.replicate, List.getElem?_append_left, List.getElem?_append_right, List.set_append_left, List.set_append_right, List.getElem?_set_self, List.getElem?_set_ne, hq_get0, hq_get, hq_get2, hq_get3, hp_get0, hp_get, hp_get2, hp_get3, hp_set0, hp_set, hp_set2, hp_set3, wr_0, wr_1, wr_2, wr_3, wr_4, wr_n1, f0, f1, f2, f13, f14, l0, l1, l2, hw, i30, i30n, a0, a0i, a1, a1i, g1, x1, a2, a2i, ke19]
                exact ⟨30 - (i + 1), by omega, hJ _ _ _ ⟨_, i + 1, rfl, rfl, by omega, rfl, rfl, rfl, rfl, rfl, by rw [hT]⟩⟩
            · have a1 : decide (i < S.length) = false := dec_false a1n
              have a1i : decide ((i : Int) < S.length) = false := dec_false (by omega)
              have q1 : S[i]? = none := List.getElem?_eq_none (by omega)
              by_cases a2n : i < W.length
              · have a2 : decide (i < W.length) = true := dec_true a2n
                have a2i : decide ((i : Int) < W.length) = true := dec_true (by omega)
                have g2 : ∀ X, rdK i (h ++ [X])[slB v2]? = _ := fun X => (aW.more [X]).get i a2n
                have x2 := aW.idx i a2n
                have q2 : W[i]? = some W[i] := List.getElem?_eq_getElem a2n
                have hwb := hW _ (List.getElem_mem a2n)
                generalize hww : W[i] = w at g2 q2 hwb
                have e21 := fun t ht => rd21 h w t hwb ht
                have hr : rnd L S W i = wideS (w : Int) := by simp [rnd, q0, q1, q2]
                rw [hr] at hrnd
                have ke21 := e21 (tl L S W (30 - (i + 1))) (by simp only [List.length_append, nl, tlen, wl]; omega)
                have hE : tl L S W (30 - i) = wideS (w : Int) ++ tl L S W (30 - (i + 1)) := by rw [hrnd]
                rw [hE]
                generalize hT : tl L S W (30 - (i + 1)) = T at ke21 ⊢
                simp [yld_some, exec_reg, exec_dreg, exec_seq, exec_cond, exec_block, exec_scope, exec_exit, exec_ret, exec_skip, exec_loop, ops_nil, ops_cons, ops_cons_gd, stages_nil, stages_cons_n, stages_cons_h, recheck, wantsOp, AV.same, sames, evalOp_p, evalOp_r, evalOp_a, evalOp_call, evalOp_callV, evalOp_store, evalOp_append, evalOp_clear, evalOp_mapUpdate, evalOp_delete, pP_move, pP_pick, pP_build, pP_nil_ptr, pP_nil_func, pP_bin, pP_eq, pP_neg, pP_inv, pP_not, pP_convInt, pP_convStr, pP_fieldAddr, pP_field, pP_indexAddr, pP_indexStr, pP_sliceStr, pP_sliceSl, pP_lenStr, pP_lenNil, pP_lenSl, pP_min, pP_max, pP_extract, pP_mkfn, bV_add, bV_sub, bV_mul, bV_quo, bV_rem, bV_and, bV_or, bV_xor, bV_andNot, bV_eql, bV_neq, bV_lss, bV_leq, bV_gtr, bV_geq, bV_shl, bV_shr, bV_str, eV_bool, eV_nn, eV_np, eV_pn, eV_snn, eV_sns, eV_ssn, eV_mnn, eV_mnm, eV_mmn, eV_fnn, eV_fnf, eV_ffn, eV_agg, rP_load, rP_lenNil, rP_str0, rdEl_K, rdK_row, aP_alloc, aP_box, aP_buildSlice, aP_makeSlice, aP_makeMap, aP_toBytes, hP_store, storeK_some, st_K, stK_row, stE_some, cells_agg, cells_bool, scalar_bool, cells_int, scalar_int, cells_str, scalar_str, cells_nilptr, scalar_nilptr, cells_ptr, scalar_ptr, cells_nilslice, scalar_nilslice, cells_slice, scalar_slice, cells_nilmap, scalar_nilmap, cells_map, scalar_map, cells_nilfunc, scalar_nilfunc, cells_func, scalar_func, eqCells, eqLeaf, run_toL, toL_some, ev_toL, getD_toL, put_toL, keep_toL, asc, fput_same, fput_ne, fbase_nil, fbase_cons, fkeep_nil, fkeep_cons, fzero, fnone, List.map_cons, List.map_nil, ev_lit, put_none, resVals, resVal, resOf, partV, fillA, putCells, fillEls, strBin, minV, optNat, appendEls, elsOf, sliceSlV, sliceStrV, List.replicate, List.getElem?_append_left, List.getElem?_append_right, List.set_append_left, List.set_append_right, List.getElem?_set_self, List.getElem?_set_ne, hq_get0, hq_get, hq_get2, hq_get3, hp_get0, hp_get, hp_get2, hp_get3, hp_set0, hp_set, hp_set2, hp_set3, wr_0, wr_1, wr_2, wr_3, wr_4, wr_n1, f0, f1, f2, f13, f14, l0, l1, l2, hw, i30, i30n, a0, a0i, a1, a1i, a2, a2i, g2, x2, ke21]
                exact ⟨30 - (i + 1), by omega, hJ _ _ _ ⟨_, i + 1, rfl, rfl, by omega, rfl, rfl, rfl, rfl, rfl, by rw [hT]⟩⟩
              · have a2 : decide (i < W.length) = false := dec_false a2n
                have a2i : decide ((i : Int) < W.length) = false := dec_false (by omega)
                have q2 : W[i]? = none := List.getElem?_eq_none (by omega)
                have hr : rnd L S W i = [] := by simp [rnd, q0, q1, q2]
                rw [hr] at hrnd
                have hE : tl L S W (30 - i) = tl L S W (30 - (i + 1)) := by rw [hrnd]; rfl
                rw [hE]
                generalize hT : tl L S W (30 - (i + 1)) = T at ⊢
                simp [yld_some, exec_reg, exec_dreg, exec_seq, exec_cond, exec_block, exec_scope, exec_exit, exec_ret, exec_skip, exec_loop, ops_nil, ops_cons, ops_cons_gd, stages_nil, stages_cons_n, stages_cons_h, recheck, wantsOp, AV.same, sames, evalOp_p, evalOp_r, evalOp_a, evalOp_call, evalOp_callV, evalOp_store, evalOp_append, evalOp_clear, evalOp_mapUpdate, evalOp_delete, pP_move, pP_pick, pP_build, pP_nil_ptr, pP_nil_func, pP_bin, pP_eq, pP_neg, pP_inv, pP_not, pP_convInt, pP_convStr, pP_fieldAddr, pP_field, pP_indexAddr, pP_indexStr, pP_sliceStr, pP_sliceSl, pP_lenStr, pP_lenNil, pP_lenSl, pP_min, pP_max, pP_extract, pP_mkfn, bV_add, bV_sub, bV_mul, bV_quo, bV_rem, bV_and, bV_or, bV_xor, bV_andNot, bV_eql, bV_neq, bV_lss, bV_leq, bV_gtr, bV_geq, bV_shl, bV_shr, bV_str, eV_bool, eV_nn, eV_np, eV_pn, eV_snn, eV_sns, eV_ssn, eV_mnn, eV_mnm, eV_mmn, eV_fnn, eV_fnf, eV_ffn, eV_agg, rP_load, rP_lenNil, rP_str0, rdEl_K, rdK_row, aP_alloc, aP_box, aP_buildSlice, aP_makeSlice, aP_makeMap, aP_toBytes, hP_store, storeK_some, st_K, stK_row, stE_some, cells_agg, cells_bool, scalar_bool, cells_int, scalar_int, cells_str, scalar_str, cells_nilptr, scalar_nilptr, cells_ptr, scalar_ptr, cells_nilslice, scalar_nilslice, cells_slice, scalar_slice, cells_nilmap, scalar_nilmap, cells_map, scalar_map, cells_nilfunc, scalar_nilfunc, cells_func, scalar_func, eqCells, eqLeaf, run_toL, toL_some, ev_toL, getD_toL, put_toL, keep_toL, asc, fput_same, fput_ne, fbase_nil, fbase_cons, fkeep_nil, fkeep_cons, fzero, fnone, List.map_cons, List.map_nil, ev_lit, put_none, resVals, resVal, resOf, partV, fillA, putCells, fillEls, strBin, minV, optNat, appendEls, elsOf, sliceSlV, sliceStrV, List.replicate, List.getElem?_append_left, List.getElem?_append_right, List.set_append_left, List.set_append_right, List.getElem?_set_self, List.getElem?_set_ne, hq_get0, hq_get, hq_get2, hq_get3, hp_get0, hp_get, hp_get2, hp_get3, hp_set0, hp_set, hp_set2, hp_set3, wr_0, wr_1, wr_2, wr_3, wr_4, wr_n1, f0, f1, f2, f13, f14, l0, l1, l2, hw, i30, i30n, a0, a0i, a1, a1i, a2, a2i]
                exact ⟨30 - (i + 1), by omega, hJ _ _ _ ⟨_, i + 1, rfl, rfl, by omega, rfl, rfl, rfl, rfl, rfl, by rw [hT]⟩⟩
      --end2
        · have hin : i = 30 := by omega
          subst hin
          simp [yld_some, exec_reg, exec_dreg, exec_seq, exec_cond, exec_block, exec_scope, exec_exit, exec_ret, exec_skip, exec_loop, ops_nil, ops_cons, ops_cons_gd, stages_nil, stages_cons_n, stages_cons_h, recheck, wantsOp, AV.same, sames, evalOp_p, evalOp_r, evalOp_a, evalOp_call, evalOp_callV, evalOp_store, evalOp_append, evalOp_clear, evalOp_mapUpdate, evalOp_delete, pP_move, pP_pick, pP_build, pP_nil_ptr, pP_nil_func, pP_bin, pP_eq, pP_neg, pP_inv, pP_not, pP_convInt, pP_convStr, pP_fieldAddr, pP_field, pP_indexAddr, pP_indexStr, pP_sliceStr, pP_sliceSl, pP_lenStr, pP_lenNil, pP_lenSl, pP_min, pP_max, pP_extract, pP_mkfn, bV_add, bV_sub, bV_mul, bV_quo, bV_rem, bV_and, bV_or, bV_xor, bV_andNot, bV_eql, bV_neq, bV_lss, bV_leq, bV_gtr, bV_geq, bV_shl, bV_shr, bV_str, eV_bool, eV_nn, eV_np, eV_pn, eV_snn, eV_sns, eV_ssn, eV_mnn, eV_mnm, eV_mmn, eV_fnn, eV_fnf, eV_ffn, eV_agg, rP_load, rP_lenNil, rP_str0, rdEl_K, rdK_row, aP_alloc, aP_box, aP_buildSlice, aP_makeSlice, aP_makeMap, aP_toBytes, hP_store, storeK_some, st_K, stK_row, stE_some, cells_agg, cells_bool, scalar_bool, cells_int, scalar_int, cells_str, scalar_str, cells_nilptr, scalar_nilptr, cells_ptr, scalar_ptr, cells_nilslice, scalar_nilslice, cells_slice, scalar_slice, cells_nilmap, scalar_nilmap, cells_map, scalar_map, cells_nilfunc, scalar_nilfunc, cells_func, scalar_func, eqCells, eqLeaf, run_toL, toL_some, ev_toL, getD_toL, put_toL, keep_toL, asc, fput_same, fput_ne, fbase_nil, fbase_cons, fkeep_nil, fkeep_cons, fzero, fnone, List.map_cons, List.map_nil, ev_lit, put_none, resVals, resVal, resOf, partV, fillA, putCells, fillEls, strBin, minV, optNat, appendEls, elsOf, sliceSlV, sliceStrV, List.replicate, List.getElem?_append_left, List.getElem?_append_right, List.set_append_left, List.set_append_right, List.getElem?_set_self, List.getElem?_set_ne, hq_get0, hq_get, hq_get2, hq_get3, hp_get0, hp_get, hp_get2, hp_get3, hp_set0, hp_set, hp_set2, hp_set3, wr_0, wr_1, wr_2, wr_3, wr_4, wr_n1, f0, f1, f2, f13, f14]
          refine hR _ ?_
          simp [yld_some, exec_reg, exec_dreg, exec_seq, exec_cond, exec_block, exec_scope, exec_exit, exec_ret, exec_skip, exec_loop, ops_nil, ops_cons, ops_cons_gd, stages_nil, stages_cons_n, stages_cons_h, recheck, wantsOp, AV.same, sames, evalOp_p, evalOp_r, evalOp_a, evalOp_call, evalOp_callV, evalOp_store, evalOp_append, evalOp_clear, evalOp_mapUpdate, evalOp_delete, pP_move, pP_pick, pP_build, pP_nil_ptr, pP_nil_func, pP_bin, pP_eq, pP_neg, pP_inv, pP_not, pP_convInt, pP_convStr, pP_fieldAddr, pP_field, pP_indexAddr, pP_indexStr, pP_sliceStr, pP_sliceSl, pP_lenStr, pP_lenNil, pP_lenSl, pP_min, pP_max, pP_extract, pP_mkfn, bV_add, bV_sub, bV_mul, bV_quo, bV_rem, bV_and, bV_or, bV_xor, bV_andNot, bV_eql, bV_neq, bV_lss, bV_leq, bV_gtr, bV_geq, bV_shl, bV_shr, bV_str, eV_bool, eV_nn, eV_np, eV_pn, eV_snn, eV_sns, eV_ssn, eV_mnn, eV_mnm, eV_mmn, eV_fnn, eV_fnf, eV_ffn, eV_agg, rP_load, rP_lenNil, rP_str0, rdEl_K, rdK_row, aP_alloc, aP_box, aP_buildSlice, aP_makeSlice, aP_makeMap, aP_toBytes, hP_store, storeK_some, st_K, stK_row, stE_some, cells_agg, cells_bool, scalar_bool, cells_int, scalar_int, cells_str, scalar_str, cells_nilptr, scalar_nilptr, cells_ptr, scalar_ptr, cells_nilslice, scalar_nilslice, cells_slice, scalar_slice, cells_nilmap, scalar_nilmap, cells_map, scalar_map, cells_nilfunc, scalar_nilfunc, cells_func, scalar_func, eqCells, eqLeaf, run_toL, toL_some, ev_toL, getD_toL, put_toL, keep_toL, asc, fput_same, fput_ne, fbase_nil, fbase_cons, fkeep_nil, fkeep_cons, fzero, fnone, List.map_cons, List.map_nil, ev_lit, put_none, resVals, resVal, resOf, partV, fillA, putCells, fillEls, strBin, minV, optNat, appendEls, elsOf, sliceSlV, sliceStrV, List.replicate, List.getElem?_append_left, List.getElem?_append_right, List.set_append_left, List.set_append_right, List.getElem?_set_self, List.getElem?_set_ne, hq_get0, hq_get, hq_get2, hq_get3, hp_get0, hp_get, hp_get2, hp_get3, hp_set0, hp_set, hp_set2, hp_set3, wr_0, wr_1, wr_2, wr_3, wr_4, wr_n1, e1_9, e1_10, e1_11, e1_14, e1_16, e1_17, e1_19, e1_21, e1_23, e1_24, ex0, exG, exR, f0, f1, f2, f13, f14, rdOf, Rd.blk, tl, Rd.fin]
          exact hQ' _
end Go.Proofs.Ytnfdgbapionojaa.Pk
namespace Go.Proofs.Ytnfdgbapionojaa.Pure
open Go Go.Eng Pk
theorem PackBack : LawOk Try.prog 4 F.ss4 := by
  refine ⟨Pk.fs1, Pk.ex1, Pk.fs1_ok, Pk.ex1_ok, fun vs h _ hv => ?_⟩
  simp only [F.ss4, HasVs, HasV, HasF, Has] at hv
  obtain ⟨_, _, rfl, ⟨v0, e0, h0, s0, _, _, x0⟩, _, _, rfl, ⟨v1, e1, h1, s1, _, _, x1⟩, _, _, rfl, ⟨v2, e2, h2, s2, _, _, x2⟩, rfl⟩ := hv
  cases h0; cases h1; cases h2
  obtain ⟨L, rfl, hL⟩ := ints_of (h := h) e0 (by simpa only [Has] using x0)
  obtain ⟨S, rfl, hS⟩ := strs_of (h := h) e1 (by simpa only [Has] using x1)
  obtain ⟨W, rfl, hW⟩ := ints_of (h := h) e2 (by simpa only [Has] using x2)
  obtain ⟨W', rfl, hW'⟩ := nats_of W hW
  rw [List.map_map] at s2
  exact Pk.back_law _ _ _ L S W' h (arr_of s0) (arr_of s1) (arr_of s2) hW' hS
end Go.Proofs.Ytnfdgbapionojaa.Pure
