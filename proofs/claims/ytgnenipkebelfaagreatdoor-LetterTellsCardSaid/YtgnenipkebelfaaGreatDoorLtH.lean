/- Letters: letters as bytes (written by genlt3.py) -/
import Derived.Test.YtgnenipkebelfaaGreatDoorLtG
set_option maxRecDepth 100000
set_option linter.unusedVariables false
set_option linter.unusedSimpArgs false
namespace Go.Proofs.YtgnenipkebelfaaGreatDoor.Lt
open Go Go.Eng F Pk Bk

theorem tblC : Tbl fsC exC := ⟨rfl, rfl, rfl, fun _ _ => (eC_WriteString _ _).trans ((eB_WriteString _ _).trans (eA_WriteString _ _)), fun _ _ => (eC_String _ _).trans ((eB_String _ _).trans (eA_String _ _)), fun _ _ => (eC_Num _ _).trans ((eB_Num _ _).trans (eA_Num _ _)), fun _ _ => (eC_Text _ _).trans ((eB_Text _ _).trans (eA_Text _ _)), fun _ _ => (eC_Wide _ _).trans ((eB_Wide _ _).trans (eA_Wide _ _))⟩
set_option maxHeartbeats 32000000 in
theorem Put_call {k : H} {c : List AV} {l : Ltr} (hc : IsL k c l) : ∃ z, call fsC exC 7 [.agg c] k = some (.tuple [.str (if right l = true then putS l else []), .bool (right l)], k ++ z) := by
  obtain ⟨v1, v2, rfl, h1, h2, b1, b2⟩ := hc
  have s1 := h1.cells
  have s2 := h2.cells
  have er := c_Right (k := k ++ [.row 21 [ltc l v1 v2] true true]) (l := l) ⟨v1, v2, rfl, rds_app h1, rds_app h2, b1, b2⟩
  rw [call_eq fsC exC (f := 7) (sf := sf7) rfl]
  cases hr : right l
  · rw [hr] at er
    unfold ltc at *
    simp [sf7, evB, recheck, wantsOp, AV.same, sames, eqCells, eqLeaf, toL_some, asc, fzero, fnone, List.map_cons, List.map_nil, resVals, resVal, resOf, partV, fillA, putCells, fillEls, strBin, minV, optNat, appendEls, elsOf, sliceSlV, sliceStrV, List.replicate, List.getElem?_append_left, List.getElem?_append_right, List.set_append_left, List.set_append_right, List.getElem?_set_self, List.getElem?_set_ne, er, s1.1, s1.2.1, s1.2.2, s2.1, s2.2.1, s2.2.2]
  rw [hr] at er
  have g := right_iff.1 hr
  have gi : ∀ {v : Int}, 0 ≤ v ∧ v ≤ 255 → 0 ≤ v ∧ v ≤ 65535 := fun h => ⟨h.1, by omega⟩
  have w0 := WrK.new (k ++ [Blk.row 21 [ltc l v1 v2] true true])
  have hb : (k ++ [Blk.row 21 [ltc l v1 v2] true true]).length = k.length + 1 := by simp
  have hrow : (k ++ [Blk.row 21 [ltc l v1 v2] true true])[k.length]? = some (.row 21 [ltc l v1 v2] true true) := by simp
  obtain ⟨K1, e1, w1⟩ := w0.nums tblC [l.kind, l.frm, l.dst, l.id, l.ep, l.n, l.node] true (by
    intro x hx
    simp only [List.mem_cons, List.not_mem_nil, or_false] at hx
    rcases hx with rfl | rfl | rfl | rfl | rfl | rfl | rfl
    · exact ⟨by have := g.kind; omega, by have := g.kind; omega⟩
    · exact gi g.frm
    · exact gi g.dst
    · exact g.id
    · exact g.ep
    · exact g.n
    · exact gi g.node) (by simp) (by simp)
  have r1 := w1.at_ hrow
  obtain ⟨K2, e2, w2⟩ := w1.write tblC (t := wideS l.af ++ wideS l.at_) (m := 16) (by simp [wideS]) (by rw [List.length_append, wideS_len, wideS_len]; decide) (by simp)
  have r2 := w2.at_ hrow
  obtain ⟨K3, e3, w3⟩ := w2.items tblC (rds_app h2) g.it (by simp)
  have r3 := w3.at_ hrow
  obtain ⟨K4, e4, w4⟩ := w3.nums tblC [l.op] true (by
    intro x hx
    simp only [List.mem_cons, List.not_mem_nil, or_false] at hx
    subst hx
    · exact gi g.op) (by simp) (by simp)
  have r4 := w4.at_ hrow
  obtain ⟨K5, e5, w5⟩ := w4.texts tblC [l.key, l.value, l.to2] true (by
    intro x hx
    simp only [List.mem_cons, List.not_mem_nil, or_false] at hx
    rcases hx with rfl | rfl | rfl
    · exact g.key
    · exact g.value
    · exact g.to2) (by simp) (by simp)
  have r5 := w5.at_ hrow
  obtain ⟨K6, e6, w6⟩ := w5.nums tblC [l.most, l.errno] true (by
    intro x hx
    simp only [List.mem_cons, List.not_mem_nil, or_false] at hx
    rcases hx with rfl | rfl
    · exact g.most
    · exact gi g.errno) (by simp) (by simp)
  have r6 := w6.at_ hrow
  obtain ⟨K7, e7, w7⟩ := w6.texts tblC [l.tv] true (by
    intro x hx
    simp only [List.mem_cons, List.not_mem_nil, or_false] at hx
    subst hx
    · exact g.tv) (by simp) (by simp)
  have r7 := w7.at_ hrow
  obtain ⟨K8, e8, w8⟩ := w7.items tblC (rds_app h1) g.ti (by simp)
  have r8 := w8.at_ hrow
  have hfl : (0 : Int) ≤ flagI l.more ∧ flagI l.more ≤ 65535 := by unfold flagI; split <;> omega
  obtain ⟨K9, e9, w9⟩ := w8.nums tblC [flagI l.more] true (by
    intro x hx
    simp only [List.mem_cons, List.not_mem_nil, or_false] at hx
    subst hx
    · exact hfl) (by simp) (by simp)
  have r9 := w9.at_ hrow
  obtain ⟨K10, e10, w10⟩ := w9.texts tblC [l.next] true (by
    intro x hx
    simp only [List.mem_cons, List.not_mem_nil, or_false] at hx
    subst hx
    · exact g.next) (by simp) (by simp)
  have r10 := w10.at_ hrow
  obtain ⟨K11, e11, w11⟩ := w10.nums tblC [l.tnode] true (by
    intro x hx
    simp only [List.mem_cons, List.not_mem_nil, or_false] at hx
    subst hx
    · exact gi g.tnode) (by simp) (by simp)
  have r11 := w11.at_ hrow
  obtain ⟨K12, e12, c12⟩ := w11.string tblC (by simp)
  obtain ⟨z, rfl⟩ := chg_app c12
  clear w0 w1 w2 w3 w4 w5 w6 w7 w8 w9 w10 w11
  simp only [hb, List.length_append, List.length_cons, List.length_nil, List.map_cons, List.map_nil, intc, strc, Nat.zero_add, Nat.add_assoc, Nat.reduceAdd, List.flatMap_cons, List.flatMap_nil, List.append_nil, List.append_assoc, List.cons_append, List.nil_append] at e1 e2 e3 e4 e5 e6 e7 e8 e9 e10 e11 e12
  have hput : putS l = putS l := rfl
  conv at hput => lhs; unfold putS
  have hw1 : ¬ (9223372036854775807 : Int) < ((wideS l.af).length : Nat) + ((wideS l.at_).length : Nat) := by rw [wideS_len, wideS_len]; omega
  have hcw : ∀ vs h, call fsC exC 21 vs h = exG 21 vs h := tblC.D
  unfold ltc at *
  cases hm : l.more
  · have hf : flagI false = 0 := rfl
    simp only [hm, hf] at er e1 e9 r1 r2 r3 r4 r5 r6 r7 r8 r9 r10 r11
    simp [sf7, evB, recheck, wantsOp, AV.same, sames, eqCells, eqLeaf, toL_some, asc, fzero, fnone, List.map_cons, List.map_nil, resVals, resVal, resOf, partV, fillA, putCells, fillEls, strBin, minV, optNat, appendEls, elsOf, sliceSlV, sliceStrV, List.replicate, List.getElem?_append_left, List.getElem?_append_right, List.set_append_left, List.set_append_right, List.getElem?_set_self, List.getElem?_set_ne, hm, er, hcw, exG, hw1, wideS_len, e1, e2, e3, e4, e5, e6, e7, e8, e9, e10, e11, e12, r1, get_app r1, set_app r1, get_set_same r1, get_set_app r1, set_set_app r1, len_beq r1, beq_len r1, r2, get_app r2, set_app r2, get_set_same r2, get_set_app r2, set_set_app r2, len_beq r2, beq_len r2, r3, get_app r3, set_app r3, get_set_same r3, get_set_app r3, set_set_app r3, len_beq r3, beq_len r3, r4, get_app r4, set_app r4, get_set_same r4, get_set_app r4, set_set_app r4, len_beq r4, beq_len r4, r5, get_app r5, set_app r5, get_set_same r5, get_set_app r5, set_set_app r5, len_beq r5, beq_len r5, r6, get_app r6, set_app r6, get_set_same r6, get_set_app r6, set_set_app r6, len_beq r6, beq_len r6, r7, get_app r7, set_app r7, get_set_same r7, get_set_app r7, set_set_app r7, len_beq r7, beq_len r7, r8, get_app r8, set_app r8, get_set_same r8, get_set_app r8, set_set_app r8, len_beq r8, beq_len r8, r9, get_app r9, set_app r9, get_set_same r9, get_set_app r9, set_set_app r9, len_beq r9, beq_len r9, r10, get_app r10, set_app r10, get_set_same r10, get_set_app r10, set_set_app r10, len_beq r10, beq_len r10, r11, get_app r11, set_app r11, get_set_same r11, get_set_app r11, set_set_app r11, len_beq r11, beq_len r11, s1.1, s1.2.1, s1.2.2, s2.1, s2.2.1, s2.2.2]
    unfold putS
    rw [hm]
  · have hf : flagI true = 1 := rfl
    simp only [hm, hf] at er e1 e9 r1 r2 r3 r4 r5 r6 r7 r8 r9 r10 r11
    simp [sf7, evB, recheck, wantsOp, AV.same, sames, eqCells, eqLeaf, toL_some, asc, fzero, fnone, List.map_cons, List.map_nil, resVals, resVal, resOf, partV, fillA, putCells, fillEls, strBin, minV, optNat, appendEls, elsOf, sliceSlV, sliceStrV, List.replicate, List.getElem?_append_left, List.getElem?_append_right, List.set_append_left, List.set_append_right, List.getElem?_set_self, List.getElem?_set_ne, hm, er, hcw, exG, hw1, wideS_len, e1, e2, e3, e4, e5, e6, e7, e8, e9, e10, e11, e12, r1, get_app r1, set_app r1, get_set_same r1, get_set_app r1, set_set_app r1, len_beq r1, beq_len r1, r2, get_app r2, set_app r2, get_set_same r2, get_set_app r2, set_set_app r2, len_beq r2, beq_len r2, r3, get_app r3, set_app r3, get_set_same r3, get_set_app r3, set_set_app r3, len_beq r3, beq_len r3, r4, get_app r4, set_app r4, get_set_same r4, get_set_app r4, set_set_app r4, len_beq r4, beq_len r4, r5, get_app r5, set_app r5, get_set_same r5, get_set_app r5, set_set_app r5, len_beq r5, beq_len r5, r6, get_app r6, set_app r6, get_set_same r6, get_set_app r6, set_set_app r6, len_beq r6, beq_len r6, r7, get_app r7, set_app r7, get_set_same r7, get_set_app r7, set_set_app r7, len_beq r7, beq_len r7, r8, get_app r8, set_app r8, get_set_same r8, get_set_app r8, set_set_app r8, len_beq r8, beq_len r8, r9, get_app r9, set_app r9, get_set_same r9, get_set_app r9, set_set_app r9, len_beq r9, beq_len r9, r10, get_app r10, set_app r10, get_set_same r10, get_set_app r10, set_set_app r10, len_beq r10, beq_len r10, r11, get_app r11, set_app r11, get_set_same r11, get_set_app r11, set_set_app r11, len_beq r11, beq_len r11, s1.1, s1.2.1, s1.2.2, s2.1, s2.2.1, s2.2.2]
    unfold putS
    rw [hm]
theorem cN {v : Int} (h : 0 ≤ v ∧ v ≤ 65535) (k : H) : call fsC exC 32 [.int .i64 v] k = some (.str (numS v), k) := by
  rw [eC_rNum, eB_rNum, eA_rNum]
  simp only [exF, h.1, h.2, and_self, if_true]
theorem cT {s : List UInt8} (h : s.length ≤ 255) (k : H) : call fsC exC 35 [.str s] k = some (.str (textS s), k) := by
  rw [eC_rText, eB_rText, eA_rText]
  simp only [exF, h, if_true]
theorem cW {v : Int} (h : 0 ≤ v ∧ v ≤ 18446744073709551615) (k : H) : call fsC exC 33 [.int .u64 v] k = some (.str (wideS v), k) := by
  rw [eC_rWide, eB_rWide, eA_rWide]
  have : v < 18446744073709551616 := by omega
  simp only [exF, h.1, this, and_self, if_true]
theorem cF (x : Bool) (k : H) : call fsC exC 36 [.bool x] k = some (.int .i64 (flagI x), k) := (eC_rflag _ _).trans (b_flag x k)
theorem add_str {a b : List UInt8} (h : a.length + b.length ≤ 1000000000) : binV .add (.str a) (.str b) = some (.str (a ++ b)) := by
  have : ¬ (9223372036854775807 : Int) < (a.length : Nat) + (b.length : Nat) := by omega
  have h2 : ¬ 9223372036854775807 < a.length + b.length := by omega
  simp [bV_str, strBin, this, h2]
set_option maxHeartbeats 4000000 in
theorem ritems_loop {k : H} {v : AV} {X : List It} (hv : RdS k 2 v (X.map itc)) (hr : X.length ≤ 40 ∧ ∀ x ∈ X, x.1.length ≤ 255 ∧ x.2.length ≤ 255) :
    Yld (call fsC exC 34 [v] k) fun r => r = (.str (itemsS X), k) := by
  refine yld_shut fun Q hQ => ?_
  rw [call_eq fsC exC (f := 34) (sf := sf34) rfl]
  have lv := hv.len
  rw [List.length_map] at lv
  have cv := hv.cells
  have hr1 := hr.1
  have eN := cN (v := (X.length : Nat)) ⟨by omega, by omega⟩ k
  simp [sf34, evB, recheck, wantsOp, AV.same, sames, eqCells, eqLeaf, toL_some, asc, fzero, fnone, List.map_cons, List.map_nil, resVals, resVal, resOf, partV, fillA, putCells, fillEls, strBin, minV, optNat, appendEls, elsOf, sliceSlV, sliceStrV, List.replicate, List.getElem?_append_left, List.getElem?_append_right, List.set_append_left, List.set_append_right, List.getElem?_set_self, List.getElem?_set_ne, lv, cv.1, cv.2.1, cv.2.2, eN]
  repeat (first | apply yld_endFn | apply yld_seqK | apply yld_blockK | apply yld_regK | apply yld_opsK | apply yld_putK | apply yld_stgK | apply yld_chkK)
  refine yld_rounds (fun m e k' => ∃ f j, e = toL 30 f ∧ m = X.length - j ∧ j ≤ X.length ∧ f 0 = v ∧ f 3 = .str (numS (X.length : Nat) ++ (X.take j).flatMap itemS) ∧ f 4 = .int .i64 (j : Nat) ∧ k' = k) (X.length - 0) ?_ ?_
  · exact ⟨_, 0, rfl, rfl, Nat.zero_le _, rfl, by rw [List.take_zero, List.flatMap_nil, List.append_nil]; rfl, rfl, rfl⟩
  · rintro J R hJ hR m e k' ⟨f, j, rfl, rfl, hj, f0, f3, f4, rfl⟩
    by_cases hjn : j < X.length
    · have d0 : decide ((j : Int) < (X.length : Nat)) = true := dec_true (by omega)
      have hwj : IntKind.i64.wrap ((j : Int) + 1) = ((j + 1 : Nat) : Int) := wrap_i64 (by omega) (by omega)
      obtain ⟨iv, gv⟩ := hv.idx (i := j) (by rw [List.length_map]; exact hjn)
      have hg : (X.map itc)[j]? = some (itc X[j]) := by simp [hjn]
      rw [hg] at gv
      unfold itc at gv
      have hx := hr.2 X[j] (List.getElem_mem hjn)
      have e1 := cT hx.1 k'
      have e2 := cT hx.2 k'
      have hlen := flat_itemS (X.take j) (fun x hx => hr.2 x (List.mem_of_mem_take hx))
      rw [List.length_take] at hlen
      obtain ⟨s0, hs0⟩ : ∃ s0, s0 = numS (X.length : Nat) ++ (X.take j).flatMap itemS := ⟨_, rfl⟩
      have l0 : s0.length ≤ 30000 := by rw [hs0, List.length_append, numS_len]; omega
      have t1 : (textS X[j].1).length ≤ 256 := by rw [textS_len]; omega
      have t2 : (textS X[j].2).length ≤ 256 := by rw [textS_len]; omega
      obtain ⟨s1, hs1⟩ : ∃ s1, s1 = s0 ++ textS X[j].1 := ⟨_, rfl⟩
      have l1 : s1.length ≤ 30256 := by rw [hs1, List.length_append]; omega
      obtain ⟨s2, hs2⟩ : ∃ s2, s2 = s1 ++ textS X[j].2 := ⟨_, rfl⟩
      have q1 : binV .add (.str s0) (.str (textS X[j].1)) = some (.str s1) := by rw [add_str (by omega), hs1]
      have q2 : binV .add (.str s1) (.str (textS X[j].2)) = some (.str s2) := by rw [add_str (by omega), hs2]
      have hnext : s2 = numS (X.length : Nat) ++ (X.take (j + 1)).flatMap itemS := by rw [hs2, hs1, hs0, take_succ_get hjn, List.flatMap_append]; simp [itemS]
      rw [← hs0] at f3
      simp [yld_some, exec_reg, exec_dreg, exec_seq, exec_cond, exec_block, exec_scope, exec_exit, exec_ret, exec_skip, exec_loop, ops_nil, ops_cons, ops_cons_gd, stages_nil, stages_cons_n, stages_cons_h, recheck, wantsOp, AV.same, sames, evalOp_p, evalOp_r, evalOp_a, evalOp_call, evalOp_callV, evalOp_store, evalOp_append, evalOp_clear, evalOp_mapUpdate, evalOp_delete, pP_move, pP_pick, pP_build, pP_nil_ptr, pP_nil_func, pP_bin, pP_eq, pP_neg, pP_inv, pP_not, pP_convInt, pP_convStr, pP_fieldAddr, pP_field, pP_indexAddr, pP_indexStr, pP_sliceStr, pP_sliceSl, pP_lenStr, pP_lenNil, pP_lenSl, pP_min, pP_max, pP_extract, pP_mkfn, bV_add, bV_sub, bV_mul, bV_quo, bV_rem, bV_and, bV_or, bV_xor, bV_andNot, bV_eql, bV_neq, bV_lss, bV_leq, bV_gtr, bV_geq, bV_shl, bV_shr, eV_bool, eV_nn, eV_np, eV_pn, eV_snn, eV_sns, eV_ssn, eV_mnn, eV_mnm, eV_mmn, eV_fnn, eV_fnf, eV_ffn, eV_agg, rP_load, rP_lenNil, rP_str0, rdEl_K, rdK_row, rdK_bld, aP_newBld, aP_alloc, aP_box, aP_buildSlice, aP_makeSlice, aP_makeMap, aP_toBytes, hP_store, storeK_some, st_K, stK_row, stE_some, cells_agg, cells_bool, scalar_bool, cells_int, scalar_int, cells_str, scalar_str, cells_nilptr, scalar_nilptr, cells_ptr, scalar_ptr, cells_nilslice, scalar_nilslice, cells_slice, scalar_slice, cells_nilmap, scalar_nilmap, cells_map, scalar_map, cells_nilfunc, scalar_nilfunc, cells_func, scalar_func, eqCells, eqLeaf, run_toL, toL_some, ev_toL, getD_toL, put_toL, keep_toL, asc, fput_same, fput_ne, fbase_nil, fbase_cons, fkeep_nil, fkeep_cons, fzero, fnone, List.map_cons, List.map_nil, ev_lit, put_none, resVals, resVal, resOf, partV, fillA, putCells, fillEls, strBin, minV, optNat, appendEls, elsOf, sliceSlV, sliceStrV, List.replicate, List.getElem?_append_left, List.getElem?_append_right, List.set_append_left, List.set_append_right, List.getElem?_set_self, List.getElem?_set_ne, hq_get0, hq_get, hq_get2, hq_get3, hp_get0, hp_get, hp_get2, hp_get3, hp_set0, hp_set, hp_set2, hp_set3, wr_0, wr_1, wr_2, wr_3, wr_4, wr_n1, f0, f3, f4, lv, iv, gv, d0, hjn, hwj, e1, e2, q1, q2, cv.1, cv.2.1, cv.2.2]
      exact ⟨X.length - (j + 1), by omega, hJ _ _ _ ⟨_, j + 1, rfl, rfl, hjn, rfl, by rw [← hnext]; rfl, rfl, rfl⟩⟩
    · have d0 : decide ((j : Int) < (X.length : Nat)) = false := dec_false (by omega)
      rw [List.take_of_length_le (by omega)] at f3
      simp [yld_some, exec_reg, exec_dreg, exec_seq, exec_cond, exec_block, exec_scope, exec_exit, exec_ret, exec_skip, exec_loop, ops_nil, ops_cons, ops_cons_gd, stages_nil, stages_cons_n, stages_cons_h, recheck, wantsOp, AV.same, sames, evalOp_p, evalOp_r, evalOp_a, evalOp_call, evalOp_callV, evalOp_store, evalOp_append, evalOp_clear, evalOp_mapUpdate, evalOp_delete, pP_move, pP_pick, pP_build, pP_nil_ptr, pP_nil_func, pP_bin, pP_eq, pP_neg, pP_inv, pP_not, pP_convInt, pP_convStr, pP_fieldAddr, pP_field, pP_indexAddr, pP_indexStr, pP_sliceStr, pP_sliceSl, pP_lenStr, pP_lenNil, pP_lenSl, pP_min, pP_max, pP_extract, pP_mkfn, bV_add, bV_sub, bV_mul, bV_quo, bV_rem, bV_and, bV_or, bV_xor, bV_andNot, bV_eql, bV_neq, bV_lss, bV_leq, bV_gtr, bV_geq, bV_shl, bV_shr, eV_bool, eV_nn, eV_np, eV_pn, eV_snn, eV_sns, eV_ssn, eV_mnn, eV_mnm, eV_mmn, eV_fnn, eV_fnf, eV_ffn, eV_agg, rP_load, rP_lenNil, rP_str0, rdEl_K, rdK_row, rdK_bld, aP_newBld, aP_alloc, aP_box, aP_buildSlice, aP_makeSlice, aP_makeMap, aP_toBytes, hP_store, storeK_some, st_K, stK_row, stE_some, cells_agg, cells_bool, scalar_bool, cells_int, scalar_int, cells_str, scalar_str, cells_nilptr, scalar_nilptr, cells_ptr, scalar_ptr, cells_nilslice, scalar_nilslice, cells_slice, scalar_slice, cells_nilmap, scalar_nilmap, cells_map, scalar_map, cells_nilfunc, scalar_nilfunc, cells_func, scalar_func, eqCells, eqLeaf, run_toL, toL_some, ev_toL, getD_toL, put_toL, keep_toL, asc, fput_same, fput_ne, fbase_nil, fbase_cons, fkeep_nil, fkeep_cons, fzero, fnone, List.map_cons, List.map_nil, ev_lit, put_none, resVals, resVal, resOf, partV, fillA, putCells, fillEls, strBin, minV, optNat, appendEls, elsOf, sliceSlV, sliceStrV, List.replicate, List.getElem?_append_left, List.getElem?_append_right, List.set_append_left, List.set_append_right, List.getElem?_set_self, List.getElem?_set_ne, hq_get0, hq_get, hq_get2, hq_get3, hp_get0, hp_get, hp_get2, hp_get3, hp_set0, hp_set, hp_set2, hp_set3, wr_0, wr_1, wr_2, wr_3, wr_4, wr_n1, f0, f3, f4, lv, d0, hjn]
      refine hR _ ?_
      simp [yld_some, exec_reg, exec_dreg, exec_seq, exec_cond, exec_block, exec_scope, exec_exit, exec_ret, exec_skip, exec_loop, ops_nil, ops_cons, ops_cons_gd, stages_nil, stages_cons_n, stages_cons_h, recheck, wantsOp, AV.same, sames, evalOp_p, evalOp_r, evalOp_a, evalOp_call, evalOp_callV, evalOp_store, evalOp_append, evalOp_clear, evalOp_mapUpdate, evalOp_delete, pP_move, pP_pick, pP_build, pP_nil_ptr, pP_nil_func, pP_bin, pP_eq, pP_neg, pP_inv, pP_not, pP_convInt, pP_convStr, pP_fieldAddr, pP_field, pP_indexAddr, pP_indexStr, pP_sliceStr, pP_sliceSl, pP_lenStr, pP_lenNil, pP_lenSl, pP_min, pP_max, pP_extract, pP_mkfn, bV_add, bV_sub, bV_mul, bV_quo, bV_rem, bV_and, bV_or, bV_xor, bV_andNot, bV_eql, bV_neq, bV_lss, bV_leq, bV_gtr, bV_geq, bV_shl, bV_shr, eV_bool, eV_nn, eV_np, eV_pn, eV_snn, eV_sns, eV_ssn, eV_mnn, eV_mnm, eV_mmn, eV_fnn, eV_fnf, eV_ffn, eV_agg, rP_load, rP_lenNil, rP_str0, rdEl_K, rdK_row, rdK_bld, aP_newBld, aP_alloc, aP_box, aP_buildSlice, aP_makeSlice, aP_makeMap, aP_toBytes, hP_store, storeK_some, st_K, stK_row, stE_some, cells_agg, cells_bool, scalar_bool, cells_int, scalar_int, cells_str, scalar_str, cells_nilptr, scalar_nilptr, cells_ptr, scalar_ptr, cells_nilslice, scalar_nilslice, cells_slice, scalar_slice, cells_nilmap, scalar_nilmap, cells_map, scalar_map, cells_nilfunc, scalar_nilfunc, cells_func, scalar_func, eqCells, eqLeaf, run_toL, toL_some, ev_toL, getD_toL, put_toL, keep_toL, asc, fput_same, fput_ne, fbase_nil, fbase_cons, fkeep_nil, fkeep_cons, fzero, fnone, List.map_cons, List.map_nil, ev_lit, put_none, resVals, resVal, resOf, partV, fillA, putCells, fillEls, strBin, minV, optNat, appendEls, elsOf, sliceSlV, sliceStrV, List.replicate, List.getElem?_append_left, List.getElem?_append_right, List.set_append_left, List.set_append_right, List.getElem?_set_self, List.getElem?_set_ne, hq_get0, hq_get, hq_get2, hq_get3, hp_get0, hp_get, hp_get2, hp_get3, hp_set0, hp_set, hp_set2, hp_set3, wr_0, wr_1, wr_2, wr_3, wr_4, wr_n1, f3]
      exact hQ _ rfl
theorem cI {k : H} {v : AV} {X : List It} (hv : RdS k 2 v (X.map itc)) (hr : X.length ≤ 40 ∧ ∀ x ∈ X, x.1.length ≤ 255 ∧ x.2.length ≤ 255) : call fsC exC 34 [v] k = some (.str (itemsS X), k) := by
  obtain ⟨_, e, rfl⟩ := ritems_loop hv hr
  exact e
theorem itemsS_len {X : List It} (hr : X.length ≤ 40 ∧ ∀ x ∈ X, x.1.length ≤ 255 ∧ x.2.length ≤ 255) : (itemsS X).length ≤ 20482 := by
  have := flat_itemS X hr.2
  unfold itemsS
  rw [List.length_append, numS_len]
  have := hr.1
  omega
set_option maxHeartbeats 32000000 in
theorem rPut_call {k : H} {c : List AV} {l : Ltr} (hc : IsL k c l) (g : Good l) (hw : Wf l) : ∃ z, call fsC exC 10 [.agg c] k = some (.str (putS l), k ++ z) := by
  obtain ⟨v1, v2, rfl, h1, h2, b1, b2⟩ := hc
  have s1 := h1.cells
  have s2 := h2.cells
  have gi : ∀ {v : Int}, 0 ≤ v ∧ v ≤ 255 → 0 ≤ v ∧ v ≤ 65535 := fun h => ⟨h.1, by omega⟩
  have hfl : (0 : Int) ≤ flagI l.more ∧ flagI l.more ≤ 65535 := by unfold flagI; split <;> omega
  obtain ⟨K, hK⟩ : ∃ K, K = k ++ [Blk.row 21 [ltc l v1 v2] true true] := ⟨_, rfl⟩
  have x1 := cN (v := l.kind) (⟨by have := g.kind; omega, by have := g.kind; omega⟩) (k ++ [Blk.row 21 [ltc l v1 v2] true true])
  have l1 : (numS l.kind).length ≤ 2 := by rw [numS_len]; omega
  obtain ⟨p1, hp1⟩ : ∃ p, p = numS l.kind := ⟨_, rfl⟩
  have m1 : p1.length ≤ 2 := by rw [hp1]; exact l1
  have x2 := cN (v := l.frm) (gi g.frm) (k ++ [Blk.row 21 [ltc l v1 v2] true true])
  have l2 : (numS l.frm).length ≤ 2 := by rw [numS_len]; omega
  obtain ⟨p2, hp2⟩ : ∃ p, p = p1 ++ numS l.frm := ⟨_, rfl⟩
  have m2 : p2.length ≤ 4 := by rw [hp2, List.length_append]; omega
  have q2 : binV .add (.str (numS l.kind)) (.str (numS l.frm)) = some (.str p2) := by rw [add_str (by rw [numS_len]; omega), hp2, hp1]
  have x3 := cN (v := l.dst) (gi g.dst) (k ++ [Blk.row 21 [ltc l v1 v2] true true])
  have l3 : (numS l.dst).length ≤ 2 := by rw [numS_len]; omega
  obtain ⟨p3, hp3⟩ : ∃ p, p = p2 ++ numS l.dst := ⟨_, rfl⟩
  have m3 : p3.length ≤ 6 := by rw [hp3, List.length_append]; omega
  have q3 : binV .add (.str (p2)) (.str (numS l.dst)) = some (.str p3) := by rw [add_str (by omega), hp3]
  have x4 := cN (v := l.id) (g.id) (k ++ [Blk.row 21 [ltc l v1 v2] true true])
  have l4 : (numS l.id).length ≤ 2 := by rw [numS_len]; omega
  obtain ⟨p4, hp4⟩ : ∃ p, p = p3 ++ numS l.id := ⟨_, rfl⟩
  have m4 : p4.length ≤ 8 := by rw [hp4, List.length_append]; omega
  have q4 : binV .add (.str (p3)) (.str (numS l.id)) = some (.str p4) := by rw [add_str (by omega), hp4]
  have x5 := cN (v := l.ep) (g.ep) (k ++ [Blk.row 21 [ltc l v1 v2] true true])
  have l5 : (numS l.ep).length ≤ 2 := by rw [numS_len]; omega
  obtain ⟨p5, hp5⟩ : ∃ p, p = p4 ++ numS l.ep := ⟨_, rfl⟩
  have m5 : p5.length ≤ 10 := by rw [hp5, List.length_append]; omega
  have q5 : binV .add (.str (p4)) (.str (numS l.ep)) = some (.str p5) := by rw [add_str (by omega), hp5]
  have x6 := cN (v := l.n) (g.n) (k ++ [Blk.row 21 [ltc l v1 v2] true true])
  have l6 : (numS l.n).length ≤ 2 := by rw [numS_len]; omega
  obtain ⟨p6, hp6⟩ : ∃ p, p = p5 ++ numS l.n := ⟨_, rfl⟩
  have m6 : p6.length ≤ 12 := by rw [hp6, List.length_append]; omega
  have q6 : binV .add (.str (p5)) (.str (numS l.n)) = some (.str p6) := by rw [add_str (by omega), hp6]
  have x7 := cN (v := l.node) (gi g.node) (k ++ [Blk.row 21 [ltc l v1 v2] true true])
  have l7 : (numS l.node).length ≤ 2 := by rw [numS_len]; omega
  obtain ⟨p7, hp7⟩ : ∃ p, p = p6 ++ numS l.node := ⟨_, rfl⟩
  have m7 : p7.length ≤ 14 := by rw [hp7, List.length_append]; omega
  have q7 : binV .add (.str (p6)) (.str (numS l.node)) = some (.str p7) := by rw [add_str (by omega), hp7]
  have x8 := cW hw.1 (k ++ [Blk.row 21 [ltc l v1 v2] true true])
  have l8 : (wideS l.af).length ≤ 8 := by rw [wideS_len]; omega
  obtain ⟨p8, hp8⟩ : ∃ p, p = p7 ++ wideS l.af := ⟨_, rfl⟩
  have m8 : p8.length ≤ 22 := by rw [hp8, List.length_append]; omega
  have q8 : binV .add (.str (p7)) (.str (wideS l.af)) = some (.str p8) := by rw [add_str (by omega), hp8]
  have x9 := cW hw.2 (k ++ [Blk.row 21 [ltc l v1 v2] true true])
  have l9 : (wideS l.at_).length ≤ 8 := by rw [wideS_len]; omega
  obtain ⟨p9, hp9⟩ : ∃ p, p = p8 ++ wideS l.at_ := ⟨_, rfl⟩
  have m9 : p9.length ≤ 30 := by rw [hp9, List.length_append]; omega
  have q9 : binV .add (.str (p8)) (.str (wideS l.at_)) = some (.str p9) := by rw [add_str (by omega), hp9]
  have x10 := cI (k := k ++ [Blk.row 21 [ltc l v1 v2] true true]) (rds_app h2) g.it
  have l10 : (itemsS l.it).length ≤ 20482 := by have := itemsS_len g.it; omega
  obtain ⟨p10, hp10⟩ : ∃ p, p = p9 ++ itemsS l.it := ⟨_, rfl⟩
  have m10 : p10.length ≤ 20512 := by rw [hp10, List.length_append]; omega
  have q10 : binV .add (.str (p9)) (.str (itemsS l.it)) = some (.str p10) := by rw [add_str (by omega), hp10]
  have x11 := cN (v := l.op) (gi g.op) (k ++ [Blk.row 21 [ltc l v1 v2] true true])
  have l11 : (numS l.op).length ≤ 2 := by rw [numS_len]; omega
  obtain ⟨p11, hp11⟩ : ∃ p, p = p10 ++ numS l.op := ⟨_, rfl⟩
  have m11 : p11.length ≤ 20514 := by rw [hp11, List.length_append]; omega
  have q11 : binV .add (.str (p10)) (.str (numS l.op)) = some (.str p11) := by rw [add_str (by omega), hp11]
  have x12 := cT g.key (k ++ [Blk.row 21 [ltc l v1 v2] true true])
  have l12 : (textS l.key).length ≤ 256 := by rw [textS_len]; have := g.key; omega
  obtain ⟨p12, hp12⟩ : ∃ p, p = p11 ++ textS l.key := ⟨_, rfl⟩
  have m12 : p12.length ≤ 20770 := by rw [hp12, List.length_append]; omega
  have q12 : binV .add (.str (p11)) (.str (textS l.key)) = some (.str p12) := by rw [add_str (by omega), hp12]
  have x13 := cT g.value (k ++ [Blk.row 21 [ltc l v1 v2] true true])
  have l13 : (textS l.value).length ≤ 256 := by rw [textS_len]; have := g.value; omega
  obtain ⟨p13, hp13⟩ : ∃ p, p = p12 ++ textS l.value := ⟨_, rfl⟩
  have m13 : p13.length ≤ 21026 := by rw [hp13, List.length_append]; omega
  have q13 : binV .add (.str (p12)) (.str (textS l.value)) = some (.str p13) := by rw [add_str (by omega), hp13]
  have x14 := cT g.to2 (k ++ [Blk.row 21 [ltc l v1 v2] true true])
  have l14 : (textS l.to2).length ≤ 256 := by rw [textS_len]; have := g.to2; omega
  obtain ⟨p14, hp14⟩ : ∃ p, p = p13 ++ textS l.to2 := ⟨_, rfl⟩
  have m14 : p14.length ≤ 21282 := by rw [hp14, List.length_append]; omega
  have q14 : binV .add (.str (p13)) (.str (textS l.to2)) = some (.str p14) := by rw [add_str (by omega), hp14]
  have x15 := cN (v := l.most) (g.most) (k ++ [Blk.row 21 [ltc l v1 v2] true true])
  have l15 : (numS l.most).length ≤ 2 := by rw [numS_len]; omega
  obtain ⟨p15, hp15⟩ : ∃ p, p = p14 ++ numS l.most := ⟨_, rfl⟩
  have m15 : p15.length ≤ 21284 := by rw [hp15, List.length_append]; omega
  have q15 : binV .add (.str (p14)) (.str (numS l.most)) = some (.str p15) := by rw [add_str (by omega), hp15]
  have x16 := cN (v := l.errno) (gi g.errno) (k ++ [Blk.row 21 [ltc l v1 v2] true true])
  have l16 : (numS l.errno).length ≤ 2 := by rw [numS_len]; omega
  obtain ⟨p16, hp16⟩ : ∃ p, p = p15 ++ numS l.errno := ⟨_, rfl⟩
  have m16 : p16.length ≤ 21286 := by rw [hp16, List.length_append]; omega
  have q16 : binV .add (.str (p15)) (.str (numS l.errno)) = some (.str p16) := by rw [add_str (by omega), hp16]
  have x17 := cT g.tv (k ++ [Blk.row 21 [ltc l v1 v2] true true])
  have l17 : (textS l.tv).length ≤ 256 := by rw [textS_len]; have := g.tv; omega
  obtain ⟨p17, hp17⟩ : ∃ p, p = p16 ++ textS l.tv := ⟨_, rfl⟩
  have m17 : p17.length ≤ 21542 := by rw [hp17, List.length_append]; omega
  have q17 : binV .add (.str (p16)) (.str (textS l.tv)) = some (.str p17) := by rw [add_str (by omega), hp17]
  have x18 := cI (k := k ++ [Blk.row 21 [ltc l v1 v2] true true]) (rds_app h1) g.ti
  have l18 : (itemsS l.ti).length ≤ 20482 := by have := itemsS_len g.ti; omega
  obtain ⟨p18, hp18⟩ : ∃ p, p = p17 ++ itemsS l.ti := ⟨_, rfl⟩
  have m18 : p18.length ≤ 42024 := by rw [hp18, List.length_append]; omega
  have q18 : binV .add (.str (p17)) (.str (itemsS l.ti)) = some (.str p18) := by rw [add_str (by omega), hp18]
  have x19 := cN hfl (k ++ [Blk.row 21 [ltc l v1 v2] true true])
  have l19 : (numS (flagI l.more)).length ≤ 2 := by rw [numS_len]; omega
  obtain ⟨p19, hp19⟩ : ∃ p, p = p18 ++ numS (flagI l.more) := ⟨_, rfl⟩
  have m19 : p19.length ≤ 42026 := by rw [hp19, List.length_append]; omega
  have q19 : binV .add (.str (p18)) (.str (numS (flagI l.more))) = some (.str p19) := by rw [add_str (by omega), hp19]
  have x20 := cT g.next (k ++ [Blk.row 21 [ltc l v1 v2] true true])
  have l20 : (textS l.next).length ≤ 256 := by rw [textS_len]; have := g.next; omega
  obtain ⟨p20, hp20⟩ : ∃ p, p = p19 ++ textS l.next := ⟨_, rfl⟩
  have m20 : p20.length ≤ 42282 := by rw [hp20, List.length_append]; omega
  have q20 : binV .add (.str (p19)) (.str (textS l.next)) = some (.str p20) := by rw [add_str (by omega), hp20]
  have x21 := cN (v := l.tnode) (gi g.tnode) (k ++ [Blk.row 21 [ltc l v1 v2] true true])
  have l21 : (numS l.tnode).length ≤ 2 := by rw [numS_len]; omega
  obtain ⟨p21, hp21⟩ : ∃ p, p = p20 ++ numS l.tnode := ⟨_, rfl⟩
  have m21 : p21.length ≤ 42284 := by rw [hp21, List.length_append]; omega
  have q21 : binV .add (.str (p20)) (.str (numS l.tnode)) = some (.str p21) := by rw [add_str (by omega), hp21]
  have xf := cF l.more (k ++ [Blk.row 21 [ltc l v1 v2] true true])
  have hput : putS l = p21 := by
    rw [hp21, hp20, hp19, hp18, hp17, hp16, hp15, hp14, hp13, hp12, hp11, hp10, hp9, hp8, hp7, hp6, hp5, hp4, hp3, hp2, hp1]
    unfold putS
    simp only [List.append_assoc]
  rw [hput, call_eq fsC exC (f := 10) (sf := sf10) rfl]
  clear hput hp1 m1 l1 hp2 m2 l2 hp3 m3 l3 hp4 m4 l4 hp5 m5 l5 hp6 m6 l6 hp7 m7 l7 hp8 m8 l8 hp9 m9 l9 hp10 m10 l10 hp11 m11 l11 hp12 m12 l12 hp13 m13 l13 hp14 m14 l14 hp15 m15 l15 hp16 m16 l16 hp17 m17 l17 hp18 m18 l18 hp19 m19 l19 hp20 m20 l20 hp21 m21 l21
  unfold ltc at *
  simp [sf10, yld_some, exec_reg, exec_dreg, exec_seq, exec_cond, exec_block, exec_scope, exec_exit, exec_ret, exec_skip, exec_loop, ops_nil, ops_cons, ops_cons_gd, stages_nil, stages_cons_n, stages_cons_h, recheck, wantsOp, AV.same, sames, evalOp_p, evalOp_r, evalOp_a, evalOp_call, evalOp_callV, evalOp_store, evalOp_append, evalOp_clear, evalOp_mapUpdate, evalOp_delete, pP_move, pP_pick, pP_build, pP_nil_ptr, pP_nil_func, pP_bin, pP_eq, pP_neg, pP_inv, pP_not, pP_convInt, pP_convStr, pP_fieldAddr, pP_field, pP_indexAddr, pP_indexStr, pP_sliceStr, pP_sliceSl, pP_lenStr, pP_lenNil, pP_lenSl, pP_min, pP_max, pP_extract, pP_mkfn, bV_add, bV_sub, bV_mul, bV_quo, bV_rem, bV_and, bV_or, bV_xor, bV_andNot, bV_eql, bV_neq, bV_lss, bV_leq, bV_gtr, bV_geq, bV_shl, bV_shr, eV_bool, eV_nn, eV_np, eV_pn, eV_snn, eV_sns, eV_ssn, eV_mnn, eV_mnm, eV_mmn, eV_fnn, eV_fnf, eV_ffn, eV_agg, rP_load, rP_lenNil, rP_str0, rdEl_K, rdK_row, rdK_bld, aP_newBld, aP_alloc, aP_box, aP_buildSlice, aP_makeSlice, aP_makeMap, aP_toBytes, hP_store, storeK_some, st_K, stK_row, stE_some, cells_agg, cells_bool, scalar_bool, cells_int, scalar_int, cells_str, scalar_str, cells_nilptr, scalar_nilptr, cells_ptr, scalar_ptr, cells_nilslice, scalar_nilslice, cells_slice, scalar_slice, cells_nilmap, scalar_nilmap, cells_map, scalar_map, cells_nilfunc, scalar_nilfunc, cells_func, scalar_func, eqCells, eqLeaf, run_toL, toL_some, ev_toL, getD_toL, put_toL, keep_toL, asc, fput_same, fput_ne, fbase_nil, fbase_cons, fkeep_nil, fkeep_cons, fzero, fnone, List.map_cons, List.map_nil, ev_lit, put_none, resVals, resVal, resOf, partV, fillA, putCells, fillEls, strBin, minV, optNat, appendEls, elsOf, sliceSlV, sliceStrV, List.replicate, List.getElem?_append_left, List.getElem?_append_right, List.set_append_left, List.set_append_right, List.getElem?_set_self, List.getElem?_set_ne, hq_get0, hq_get, hq_get2, hq_get3, hp_get0, hp_get, hp_get2, hp_get3, hp_set0, hp_set, hp_set2, hp_set3, wr_0, wr_1, wr_2, wr_3, wr_4, wr_n1, xf, x1, x2, x3, x4, x5, x6, x7, x8, x9, x10, x11, x12, x13, x14, x15, x16, x17, x18, x19, x20, x21, q2, q3, q4, q5, q6, q7, q8, q9, q10, q11, q12, q13, q14, q15, q16, q17, q18, q19, q20, q21, s1.1, s1.2.1, s1.2.2, s2.1, s2.2.1, s2.2.2]
end Go.Proofs.YtgnenipkebelfaaGreatDoor.Lt
