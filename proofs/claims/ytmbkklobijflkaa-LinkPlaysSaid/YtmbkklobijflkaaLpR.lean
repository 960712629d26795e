/- The document's link: what it keeps; a letter is sent. -/
import Derived.Test.YtmbkklobijflkaaLpG
set_option maxRecDepth 100000
set_option linter.unusedVariables false
set_option linter.unusedSimpArgs false
namespace Go.Proofs.Ytmbkklobijflkaa.Lp
open Go Go.Eng F Lk Bk BkI

def rn (s : Sn) : List AV := [.int .i64 s.seq, .int .i64 s.at_, .int .i64 s.x.kind, .int .i64 s.x.frm, .int .i64 s.x.to, .int .i64 s.x.id, .int .i64 s.x.a.op, .str s.x.a.key, .str s.x.a.value, .str s.x.a.to, .int .i64 s.x.a.most, .int .i64 s.x.t.errno, .str s.x.t.value, .nilslice, .bool s.x.t.more, .str s.x.t.next, .int .i64 s.x.t.node, .int .u64 s.x.af, .int .u64 s.x.at_, .int .i64 s.x.ep, .nilslice, .int .i64 s.x.n, .int .i64 s.x.node]
def rns (O : List Sn) : List (List AV) := O.map rn
def pvs (P : List Pv) : List (List AV) := P.map Pv.av
theorem rns_len (O : List Sn) : (rns O).length = O.length := by simp [rns]
theorem pvs_len (P : List Pv) : (pvs P).length = P.length := by simp [pvs]
theorem rn_scalar (s : Sn) : ∀ a ∈ rn s, a.scalar = true := by
  intro a ha
  simp only [rn, List.mem_cons, List.not_mem_nil, or_false] at ha
  rcases ha with rfl | rfl | rfl | rfl | rfl | rfl | rfl | rfl | rfl | rfl | rfl | rfl | rfl | rfl | rfl | rfl | rfl | rfl | rfl | rfl | rfl | rfl | rfl <;> rfl
theorem rns_scalar (O : List Sn) : ∀ e ∈ rns O, ∀ a ∈ e, a.scalar = true := by
  intro e he
  simp only [rns, List.mem_map] at he
  obtain ⟨s, _, rfl⟩ := he
  exact rn_scalar s
theorem pv_scalar (p : Pv) : ∀ a ∈ p.av, a.scalar = true := by
  intro a ha
  simp only [Pv.av, List.mem_cons, List.not_mem_nil, or_false] at ha
  rcases ha with rfl | rfl | rfl | rfl | rfl | rfl | rfl | rfl | rfl | rfl | rfl | rfl | rfl | rfl | rfl | rfl | rfl | rfl | rfl | rfl | rfl | rfl | rfl | rfl | rfl
  all_goals first | rfl | exact sv_scalar _
theorem pvs_scalar (P : List Pv) : ∀ e ∈ pvs P, ∀ a ∈ e, a.scalar = true := by
  intro e he
  simp only [pvs, List.mem_map] at he
  obtain ⟨s, _, rfl⟩ := he
  exact pv_scalar s
/-- An append of what can be read, nothing perhaps. -/
theorem app_els {k : H} {es : Nat} {v x : AV} {L X : List (List AV)} (o : OwnE k es v L) (hel : elsOf k es x = some X) (hs : ∀ e ∈ X, ∀ a ∈ e, a.scalar = true) (hlen : L.length + X.length ≤ 4294967296) :
    ∃ v' k', appendV es false v x k = some (v', k') ∧ OwnE k' es v' (L ++ X) ∧ Chg k k' (foot v) ∧ (∀ c ∈ foot v', c ∈ foot v ∨ k.length ≤ c) := by
  have hsc : (X.all fun e => e.all AV.scalar) = true := by simpa using hs
  by_cases hX0 : X.length = 0
  · have : X = [] := List.length_eq_zero_iff.1 hX0
    subst this
    refine ⟨v, k, ?_, by simpa using o, Chg.refl _ _, fun c hc => .inl hc⟩
    rcases o with ⟨rfl, rfl⟩ | ⟨b, c, y, rfl, h2, h3⟩ <;> simp [appendV, evalHeap, hel, appendEls]
  have hXn : X ≠ [] := by rintro rfl; simp at hX0
  rcases o with ⟨rfl, rfl⟩ | ⟨b, c, y, rfl, h2, h3⟩
  · refine ⟨.slice k.length es 0 X.length X.length false, k ++ [.row es X true true], ?_, .inr ⟨k.length, X.length, false, by simp, by simp, by simp⟩, Chg.app _ _ _, by simp [foot]⟩
    have : X.length ≤ 4294967296 := by simpa using hlen
    simp only [appendV, evalHeap, hel, hsc, if_true, appendEls, hX0, if_false, this, true_or]
  · by_cases hy : y = true ∧ c < L.length + X.length
    · refine ⟨.slice k.length es 0 (L.length + X.length) (L.length + X.length) false, k ++ [.row es (L ++ X) true true], ?_, .inr ⟨k.length, L.length + X.length, false, by simp, by simp, by simp⟩, Chg.app _ _ _, by simp [foot]⟩
      simp [appendV, evalHeap, hel, appendEls, hX0, hXn, h2, hlen, hy.1, hy.2]
      exact hs
    refine ⟨.slice k.length es 0 (L.length + X.length) (L.length + X.length) false, k.set b .dead ++ [.row es (L ++ X) true true], ?_, .inr ⟨k.length, L.length + X.length, false, by simp, by simp, by simp⟩, ((Chg.refl _ _).set (.inl (by simp [foot]))).more, by simp [foot]⟩
    simp [appendV, evalHeap, hel, appendEls, hX0, hXn, h2, hlen, hy]
    exact hs
structure Rs where
  me : Int
  peer : Int
  sent : Int
  O : List Sn
  came : Int
  P : List Pv
  now : Int
def rrow (q : Rs) (ov kv : AV) : Blk := .row 7 [[.int .i64 q.me, .int .i64 q.peer, .int .i64 q.sent, ov, .int .i64 q.came, kv, .int .i64 q.now]] true true
/-- As much room as it shows. -/
def capOk : AV → Prop
  | .slice _ _ _ n c _ => n ≤ c
  | _ => True
theorem cap_own {k : H} {es : Nat} {v : AV} {L : List (List AV)} (o : OwnE k es v L) : capOk v := by
  rcases o with ⟨rfl, _⟩ | ⟨b, c, x, rfl, _, h⟩
  · trivial
  · exact h
structure RefAt (k : H) (r : Nat) (ov kv : AV) (q : Rs) : Prop where
  row : k[r]? = some (rrow q ov kv)
  oo : RdS k 23 ov (rns q.O)
  kk : RdS k 25 kv (pvs q.P)
  no : r ∉ foot0 ov
  nk : r ∉ foot0 kv
  cap : capOk kv
theorem RefAt.keep {k k' : H} {r : Nat} {ov kv : AV} {q : Rs} (a : RefAt k r ov kv q) {F : List Nat} (hc : Chg k k' F) (h1 : r ∉ F) (h2 : ∀ c ∈ foot0 ov, c ∉ F) (h3 : ∀ c ∈ foot0 kv, c ∉ F) : RefAt k' r ov kv q :=
  ⟨hc.2 r _ h1 a.row, a.oo.keep0 hc h2, a.kk.keep0 hc h3, a.no, a.nk, a.cap⟩
/-- The place of the first packet with this number. -/
def idxP (n : Int) : List Pv → Option Nat
  | [] => none
  | p :: l => if p.seq = n then some 0 else (idxP n l).map (· + 1)
theorem idxP_lt {n : Int} : ∀ {l : List Pv} {i : Nat}, idxP n l = some i → i < l.length
  | [], i, h => by simp [idxP] at h
  | p :: l, i, h => by
    unfold idxP at h
    split at h
    · cases h; simp
    · cases h2 : idxP n l with
      | none => rw [h2] at h; cases h
      | some j =>
        rw [h2] at h
        cases h
        have := idxP_lt h2
        simp; omega
theorem idxP_skip {n : Int} {p : Pv} : ∀ {l : List Pv} {j : Nat}, l[j]? = some p → idxP n (l.drop j) = if p.seq = n then some 0 else (idxP n (l.drop (j + 1))).map (· + 1) := by
  intro l j h
  obtain ⟨hj, rfl⟩ := List.getElem?_eq_some_iff.1 h
  rw [List.drop_eq_getElem_cons hj, idxP]
def idxV : Option Nat → Int
  | none => -1
  | some i => i
set_option maxHeartbeats 4000000 in
theorem rkept_call {k : H} {r : Nat} {ov kv : AV} {q : Rs} (a : RefAt k r ov kv q) (hl : q.P.length < 4294967296) (n : Int) : call Lp.fs3 Lp.ex3 31 [.ptr r 0 0, .int .i64 n] k = some (.int .i64 (idxV (idxP n q.P)), k) := by
  suffices hs : Yld (call Lp.fs3 Lp.ex3 31 [.ptr r 0 0, .int .i64 n] k) fun p => p = (.int .i64 (idxV (idxP n q.P)), k) by
    obtain ⟨p, e, rfl⟩ := hs
    exact e
  refine yld_shut fun Q hQ => ?_
  rw [call_eq Lp.fs3 Lp.ex3 (f := 31) (sf := sf31) rfl]
  have hr := a.row
  have lk := a.kk.len
  rw [pvs_len] at lk
  unfold rrow at hr
  simp [sf31, yld_some, exec_reg, exec_dreg, exec_seq, exec_cond, exec_block, exec_scope, exec_exit, exec_ret, exec_skip, exec_loop, ops_nil, ops_cons, ops_cons_gd, stages_nil, stages_cons_n, stages_cons_h, recheck, wantsOp, AV.same, sames, evalOp_p, evalOp_r, evalOp_a, evalOp_call, evalOp_callV, evalOp_store, evalOp_append, evalOp_clear, evalOp_mapUpdate, evalOp_delete, pP_move, pP_pick, pP_build, pP_nil_ptr, pP_nil_func, pP_bin, pP_eq, pP_neg, pP_inv, pP_not, pP_convInt, pP_convStr, pP_fieldAddr, pP_field, pP_indexAddr, pP_indexStr, pP_sliceStr, pP_sliceSl, pP_lenStr, pP_lenNil, pP_lenSl, pP_min, pP_max, pP_extract, pP_mkfn, bV_add, bV_sub, bV_mul, bV_quo, bV_rem, bV_and, bV_or, bV_xor, bV_andNot, bV_eql, bV_neq, bV_lss, bV_leq, bV_gtr, bV_geq, bV_shl, bV_shr, bV_str, eV_bool, eV_nn, eV_np, eV_pn, eV_snn, eV_sns, eV_ssn, eV_mnn, eV_mnm, eV_mmn, eV_fnn, eV_fnf, eV_ffn, eV_agg, rP_load, rP_lenNil, rP_str0, rdEl_K, rdK_row, aP_alloc, aP_box, aP_buildSlice, aP_makeSlice, aP_makeMap, aP_toBytes, hP_store, storeK_some, st_K, stK_row, stE_some, cells_agg, cells_bool, scalar_bool, cells_int, scalar_int, cells_str, scalar_str, cells_nilptr, scalar_nilptr, cells_ptr, scalar_ptr, cells_nilslice, scalar_nilslice, cells_slice, scalar_slice, cells_nilmap, scalar_nilmap, cells_map, scalar_map, cells_nilfunc, scalar_nilfunc, cells_func, scalar_func, eqCells, eqLeaf, run_toL, toL_some, ev_toL, getD_toL, put_toL, keep_toL, asc, fput_same, fput_ne, fbase_nil, fbase_cons, fkeep_nil, fkeep_cons, fzero, fnone, List.map_cons, List.map_nil, ev_lit, put_none, resVals, resVal, resOf, partV, fillA, putCells, fillEls, strBin, minV, optNat, appendEls, elsOf, sliceSlV, sliceStrV, List.replicate, List.getElem?_append_left, List.getElem?_append_right, List.set_append_left, List.set_append_right, List.getElem?_set_self, List.getElem?_set_ne, hq_get0, hq_get, hq_get2, hq_get3, hp_get0, hp_get, hp_get2, hp_get3, hp_set0, hp_set, hp_set2, hp_set3, wr_0, wr_1, wr_2, wr_3, wr_4, wr_n1]
  repeat (first | apply yld_endFn | apply yld_seqK | apply yld_blockK | apply yld_regK | apply yld_opsK | apply yld_putK | apply yld_stgK | apply yld_chkK)
  refine yld_rounds (fun m e k' => ∃ f j, e = toL 26 f ∧ m = q.P.length - j ∧ j ≤ q.P.length ∧ f 0 = .ptr r 0 0 ∧ f 1 = .int .i64 n ∧ f 5 = .int .i64 (j : Nat) ∧ k' = k ∧ idxP n q.P = (idxP n (q.P.drop j)).map (· + j)) (q.P.length - 0) ?_ ?_
  · refine ⟨_, 0, rfl, rfl, Nat.zero_le _, rfl, rfl, rfl, rfl, ?_⟩
    rw [List.drop_zero]
    cases h : idxP n q.P <;> simp
  · rintro J R hJ hR m e k' ⟨f, j, rfl, rfl, hj, f0, f1, f5, rfl, hx⟩
    by_cases hjn : j < q.P.length
    · have d0 : decide ((j : Int) < (q.P.length : Nat)) = true := dec_true (by omega)
      have hwj : IntKind.i64.wrap ((j : Int) + 1) = ((j + 1 : Nat) : Int) := wrap_i64 (by omega) (by omega)
      obtain ⟨ip, gp⟩ := a.kk.idx (i := j) (by rw [pvs_len]; exact hjn)
      have hp : (pvs q.P)[j]? = some (q.P[j]).av := by simp [pvs, hjn]
      rw [hp] at gp
      have hsk := idxP_skip (n := n) (List.getElem?_eq_getElem hjn)
      unfold Pv.av at gp
      by_cases he : q.P[j].seq = n
      · have b : (q.P[j].seq == n) = true := beq_true he
        rw [hsk, if_pos he] at hx
        simp at hx
        simp [yld_some, exec_reg, exec_dreg, exec_seq, exec_cond, exec_block, exec_scope, exec_exit, exec_ret, exec_skip, exec_loop, ops_nil, ops_cons, ops_cons_gd, stages_nil, stages_cons_n, stages_cons_h, recheck, wantsOp, AV.same, sames, evalOp_p, evalOp_r, evalOp_a, evalOp_call, evalOp_callV, evalOp_store, evalOp_append, evalOp_clear, evalOp_mapUpdate, evalOp_delete, pP_move, pP_pick, pP_build, pP_nil_ptr, pP_nil_func, pP_bin, pP_eq, pP_neg, pP_inv, pP_not, pP_convInt, pP_convStr, pP_fieldAddr, pP_field, pP_indexAddr, pP_indexStr, pP_sliceStr, pP_sliceSl, pP_lenStr, pP_lenNil, pP_lenSl, pP_min, pP_max, pP_extract, pP_mkfn, bV_add, bV_sub, bV_mul, bV_quo, bV_rem, bV_and, bV_or, bV_xor, bV_andNot, bV_eql, bV_neq, bV_lss, bV_leq, bV_gtr, bV_geq, bV_shl, bV_shr, bV_str, eV_bool, eV_nn, eV_np, eV_pn, eV_snn, eV_sns, eV_ssn, eV_mnn, eV_mnm, eV_mmn, eV_fnn, eV_fnf, eV_ffn, eV_agg, rP_load, rP_lenNil, rP_str0, rdEl_K, rdK_row, aP_alloc, aP_box, aP_buildSlice, aP_makeSlice, aP_makeMap, aP_toBytes, hP_store, storeK_some, st_K, stK_row, stE_some, cells_agg, cells_bool, scalar_bool, cells_int, scalar_int, cells_str, scalar_str, cells_nilptr, scalar_nilptr, cells_ptr, scalar_ptr, cells_nilslice, scalar_nilslice, cells_slice, scalar_slice, cells_nilmap, scalar_nilmap, cells_map, scalar_map, cells_nilfunc, scalar_nilfunc, cells_func, scalar_func, eqCells, eqLeaf, run_toL, toL_some, ev_toL, getD_toL, put_toL, keep_toL, asc, fput_same, fput_ne, fbase_nil, fbase_cons, fkeep_nil, fkeep_cons, fzero, fnone, List.map_cons, List.map_nil, ev_lit, put_none, resVals, resVal, resOf, partV, fillA, putCells, fillEls, strBin, minV, optNat, appendEls, elsOf, sliceSlV, sliceStrV, List.replicate, List.getElem?_append_left, List.getElem?_append_right, List.set_append_left, List.set_append_right, List.getElem?_set_self, List.getElem?_set_ne, hq_get0, hq_get, hq_get2, hq_get3, hp_get0, hp_get, hp_get2, hp_get3, hp_set0, hp_set, hp_set2, hp_set3, wr_0, wr_1, wr_2, wr_3, wr_4, wr_n1, f0, f1, f5, lk, hjn, d0, hr, get_app hr, set_app hr, get_set_same hr, get_set_app hr, set_set_app hr, len_beq hr, beq_len hr, ip, gp, b, hwj]
        refine hR _ ?_
        simp [yld_some, exec_reg, exec_dreg, exec_seq, exec_cond, exec_block, exec_scope, exec_exit, exec_ret, exec_skip, exec_loop, ops_nil, ops_cons, ops_cons_gd, stages_nil, stages_cons_n, stages_cons_h, recheck, wantsOp, AV.same, sames, evalOp_p, evalOp_r, evalOp_a, evalOp_call, evalOp_callV, evalOp_store, evalOp_append, evalOp_clear, evalOp_mapUpdate, evalOp_delete, pP_move, pP_pick, pP_build, pP_nil_ptr, pP_nil_func, pP_bin, pP_eq, pP_neg, pP_inv, pP_not, pP_convInt, pP_convStr, pP_fieldAddr, pP_field, pP_indexAddr, pP_indexStr, pP_sliceStr, pP_sliceSl, pP_lenStr, pP_lenNil, pP_lenSl, pP_min, pP_max, pP_extract, pP_mkfn, bV_add, bV_sub, bV_mul, bV_quo, bV_rem, bV_and, bV_or, bV_xor, bV_andNot, bV_eql, bV_neq, bV_lss, bV_leq, bV_gtr, bV_geq, bV_shl, bV_shr, bV_str, eV_bool, eV_nn, eV_np, eV_pn, eV_snn, eV_sns, eV_ssn, eV_mnn, eV_mnm, eV_mmn, eV_fnn, eV_fnf, eV_ffn, eV_agg, rP_load, rP_lenNil, rP_str0, rdEl_K, rdK_row, aP_alloc, aP_box, aP_buildSlice, aP_makeSlice, aP_makeMap, aP_toBytes, hP_store, storeK_some, st_K, stK_row, stE_some, cells_agg, cells_bool, scalar_bool, cells_int, scalar_int, cells_str, scalar_str, cells_nilptr, scalar_nilptr, cells_ptr, scalar_ptr, cells_nilslice, scalar_nilslice, cells_slice, scalar_slice, cells_nilmap, scalar_nilmap, cells_map, scalar_map, cells_nilfunc, scalar_nilfunc, cells_func, scalar_func, eqCells, eqLeaf, run_toL, toL_some, ev_toL, getD_toL, put_toL, keep_toL, asc, fput_same, fput_ne, fbase_nil, fbase_cons, fkeep_nil, fkeep_cons, fzero, fnone, List.map_cons, List.map_nil, ev_lit, put_none, resVals, resVal, resOf, partV, fillA, putCells, fillEls, strBin, minV, optNat, appendEls, elsOf, sliceSlV, sliceStrV, List.replicate, List.getElem?_append_left, List.getElem?_append_right, List.set_append_left, List.set_append_right, List.getElem?_set_self, List.getElem?_set_ne, hq_get0, hq_get, hq_get2, hq_get3, hp_get0, hp_get, hp_get2, hp_get3, hp_set0, hp_set, hp_set2, hp_set3, wr_0, wr_1, wr_2, wr_3, wr_4, wr_n1]
        exact hQ _ (by rw [hx]; rfl)
      · have b : (q.P[j].seq == n) = false := beq_false he
        rw [hsk, if_neg he] at hx
        simp [yld_some, exec_reg, exec_dreg, exec_seq, exec_cond, exec_block, exec_scope, exec_exit, exec_ret, exec_skip, exec_loop, ops_nil, ops_cons, ops_cons_gd, stages_nil, stages_cons_n, stages_cons_h, recheck, wantsOp, AV.same, sames, evalOp_p, evalOp_r, evalOp_a, evalOp_call, evalOp_callV, evalOp_store, evalOp_append, evalOp_clear, evalOp_mapUpdate, evalOp_delete, pP_move, pP_pick, pP_build, pP_nil_ptr, pP_nil_func, pP_bin, pP_eq, pP_neg, pP_inv, pP_not, pP_convInt, pP_convStr, pP_fieldAddr, pP_field, pP_indexAddr, pP_indexStr, pP_sliceStr, pP_sliceSl, pP_lenStr, pP_lenNil, pP_lenSl, pP_min, pP_max, pP_extract, pP_mkfn, bV_add, bV_sub, bV_mul, bV_quo, bV_rem, bV_and, bV_or, bV_xor, bV_andNot, bV_eql, bV_neq, bV_lss, bV_leq, bV_gtr, bV_geq, bV_shl, bV_shr, bV_str, eV_bool, eV_nn, eV_np, eV_pn, eV_snn, eV_sns, eV_ssn, eV_mnn, eV_mnm, eV_mmn, eV_fnn, eV_fnf, eV_ffn, eV_agg, rP_load, rP_lenNil, rP_str0, rdEl_K, rdK_row, aP_alloc, aP_box, aP_buildSlice, aP_makeSlice, aP_makeMap, aP_toBytes, hP_store, storeK_some, st_K, stK_row, stE_some, cells_agg, cells_bool, scalar_bool, cells_int, scalar_int, cells_str, scalar_str, cells_nilptr, scalar_nilptr, cells_ptr, scalar_ptr, cells_nilslice, scalar_nilslice, cells_slice, scalar_slice, cells_nilmap, scalar_nilmap, cells_map, scalar_map, cells_nilfunc, scalar_nilfunc, cells_func, scalar_func, eqCells, eqLeaf, run_toL, toL_some, ev_toL, getD_toL, put_toL, keep_toL, asc, fput_same, fput_ne, fbase_nil, fbase_cons, fkeep_nil, fkeep_cons, fzero, fnone, List.map_cons, List.map_nil, ev_lit, put_none, resVals, resVal, resOf, partV, fillA, putCells, fillEls, strBin, minV, optNat, appendEls, elsOf, sliceSlV, sliceStrV, List.replicate, List.getElem?_append_left, List.getElem?_append_right, List.set_append_left, List.set_append_right, List.getElem?_set_self, List.getElem?_set_ne, hq_get0, hq_get, hq_get2, hq_get3, hp_get0, hp_get, hp_get2, hp_get3, hp_set0, hp_set, hp_set2, hp_set3, wr_0, wr_1, wr_2, wr_3, wr_4, wr_n1, f0, f1, f5, lk, hjn, d0, hr, get_app hr, set_app hr, get_set_same hr, get_set_app hr, set_set_app hr, len_beq hr, beq_len hr, ip, gp, b, hwj]
        refine ⟨q.P.length - (j + 1), by omega, hJ _ _ _ ⟨_, j + 1, rfl, rfl, by omega, rfl, rfl, rfl, rfl, ?_⟩⟩
        rw [hx]
        cases idxP n (q.P.drop (j + 1)) <;> simp; omega
    · have d0 : decide ((j : Int) < (q.P.length : Nat)) = false := dec_false (by omega)
      simp [yld_some, exec_reg, exec_dreg, exec_seq, exec_cond, exec_block, exec_scope, exec_exit, exec_ret, exec_skip, exec_loop, ops_nil, ops_cons, ops_cons_gd, stages_nil, stages_cons_n, stages_cons_h, recheck, wantsOp, AV.same, sames, evalOp_p, evalOp_r, evalOp_a, evalOp_call, evalOp_callV, evalOp_store, evalOp_append, evalOp_clear, evalOp_mapUpdate, evalOp_delete, pP_move, pP_pick, pP_build, pP_nil_ptr, pP_nil_func, pP_bin, pP_eq, pP_neg, pP_inv, pP_not, pP_convInt, pP_convStr, pP_fieldAddr, pP_field, pP_indexAddr, pP_indexStr, pP_sliceStr, pP_sliceSl, pP_lenStr, pP_lenNil, pP_lenSl, pP_min, pP_max, pP_extract, pP_mkfn, bV_add, bV_sub, bV_mul, bV_quo, bV_rem, bV_and, bV_or, bV_xor, bV_andNot, bV_eql, bV_neq, bV_lss, bV_leq, bV_gtr, bV_geq, bV_shl, bV_shr, bV_str, eV_bool, eV_nn, eV_np, eV_pn, eV_snn, eV_sns, eV_ssn, eV_mnn, eV_mnm, eV_mmn, eV_fnn, eV_fnf, eV_ffn, eV_agg, rP_load, rP_lenNil, rP_str0, rdEl_K, rdK_row, aP_alloc, aP_box, aP_buildSlice, aP_makeSlice, aP_makeMap, aP_toBytes, hP_store, storeK_some, st_K, stK_row, stE_some, cells_agg, cells_bool, scalar_bool, cells_int, scalar_int, cells_str, scalar_str, cells_nilptr, scalar_nilptr, cells_ptr, scalar_ptr, cells_nilslice, scalar_nilslice, cells_slice, scalar_slice, cells_nilmap, scalar_nilmap, cells_map, scalar_map, cells_nilfunc, scalar_nilfunc, cells_func, scalar_func, eqCells, eqLeaf, run_toL, toL_some, ev_toL, getD_toL, put_toL, keep_toL, asc, fput_same, fput_ne, fbase_nil, fbase_cons, fkeep_nil, fkeep_cons, fzero, fnone, List.map_cons, List.map_nil, ev_lit, put_none, resVals, resVal, resOf, partV, fillA, putCells, fillEls, strBin, minV, optNat, appendEls, elsOf, sliceSlV, sliceStrV, List.replicate, List.getElem?_append_left, List.getElem?_append_right, List.set_append_left, List.set_append_right, List.getElem?_set_self, List.getElem?_set_ne, hq_get0, hq_get, hq_get2, hq_get3, hp_get0, hp_get, hp_get2, hp_get3, hp_set0, hp_set, hp_set2, hp_set3, wr_0, wr_1, wr_2, wr_3, wr_4, wr_n1, f0, f1, f5, lk, hjn, d0, hr, get_app hr, set_app hr, get_set_same hr, get_set_app hr, set_set_app hr, len_beq hr, beq_len hr]
      refine hR _ ?_
      have : q.P.drop j = [] := List.drop_of_length_le (by omega)
      rw [this] at hx
      simp [yld_some, exec_reg, exec_dreg, exec_seq, exec_cond, exec_block, exec_scope, exec_exit, exec_ret, exec_skip, exec_loop, ops_nil, ops_cons, ops_cons_gd, stages_nil, stages_cons_n, stages_cons_h, recheck, wantsOp, AV.same, sames, evalOp_p, evalOp_r, evalOp_a, evalOp_call, evalOp_callV, evalOp_store, evalOp_append, evalOp_clear, evalOp_mapUpdate, evalOp_delete, pP_move, pP_pick, pP_build, pP_nil_ptr, pP_nil_func, pP_bin, pP_eq, pP_neg, pP_inv, pP_not, pP_convInt, pP_convStr, pP_fieldAddr, pP_field, pP_indexAddr, pP_indexStr, pP_sliceStr, pP_sliceSl, pP_lenStr, pP_lenNil, pP_lenSl, pP_min, pP_max, pP_extract, pP_mkfn, bV_add, bV_sub, bV_mul, bV_quo, bV_rem, bV_and, bV_or, bV_xor, bV_andNot, bV_eql, bV_neq, bV_lss, bV_leq, bV_gtr, bV_geq, bV_shl, bV_shr, bV_str, eV_bool, eV_nn, eV_np, eV_pn, eV_snn, eV_sns, eV_ssn, eV_mnn, eV_mnm, eV_mmn, eV_fnn, eV_fnf, eV_ffn, eV_agg, rP_load, rP_lenNil, rP_str0, rdEl_K, rdK_row, aP_alloc, aP_box, aP_buildSlice, aP_makeSlice, aP_makeMap, aP_toBytes, hP_store, storeK_some, st_K, stK_row, stE_some, cells_agg, cells_bool, scalar_bool, cells_int, scalar_int, cells_str, scalar_str, cells_nilptr, scalar_nilptr, cells_ptr, scalar_ptr, cells_nilslice, scalar_nilslice, cells_slice, scalar_slice, cells_nilmap, scalar_nilmap, cells_map, scalar_map, cells_nilfunc, scalar_nilfunc, cells_func, scalar_func, eqCells, eqLeaf, run_toL, toL_some, ev_toL, getD_toL, put_toL, keep_toL, asc, fput_same, fput_ne, fbase_nil, fbase_cons, fkeep_nil, fkeep_cons, fzero, fnone, List.map_cons, List.map_nil, ev_lit, put_none, resVals, resVal, resOf, partV, fillA, putCells, fillEls, strBin, minV, optNat, appendEls, elsOf, sliceSlV, sliceStrV, List.replicate, List.getElem?_append_left, List.getElem?_append_right, List.set_append_left, List.set_append_right, List.getElem?_set_self, List.getElem?_set_ne, hq_get0, hq_get, hq_get2, hq_get3, hp_get0, hp_get, hp_get2, hp_get3, hp_set0, hp_set, hp_set2, hp_set3, wr_0, wr_1, wr_2, wr_3, wr_4, wr_n1]
      exact hQ _ (by rw [hx]; rfl)
end Go.Proofs.Ytmbkklobijflkaa.Lp
