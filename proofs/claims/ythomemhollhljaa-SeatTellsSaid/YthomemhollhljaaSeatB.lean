/- Seat: where a node may sit; how much room there is; which is picked. -/
import Derived.Test.YthomemhollhljaaSeatA
set_option maxRecDepth 100000
set_option linter.unusedVariables false
set_option linter.unusedSimpArgs false
namespace Go.Proofs.Ythomemhollhljaa.St
open Go Go.Eng F

theorem alive_ran : ranTrue (callN fs noEx 60 8 [] []) = true := by kernel_rfl
def far (a b : Int) : Int := IntKind.u64.wrap (b - a)
noncomputable def ex0 : FuncId → List AV → M AV
  | 8, [], h => some (.bool true, h)
  | 15, [.int .u64 v], h => some (.int .u64 (mix v), h)
  | 17, [.int .u64 a, .int .u64 b], h => some (.int .u64 (far a b), h)
  | _, _, _ => none
theorem ex0_ok : CfSound Try.prog ex0 := by
  refine flat_sound (call_sound fs noEx fsOk noEx_sound) ?_
  intro f vs h v h' hr
  unfold ex0 at hr
  split at hr
  · cases hr; exact ⟨rfl, rfl, rfl, ranTrue_call 60 alive_ran⟩
  · cases hr; exact ⟨rfl, rfl, rfl, mix_call _⟩
  · cases hr; exact ⟨rfl, rfl, rfl, far_call _ _⟩
  · cases hr
def fs0 := fsBut fs [8, 15, 17]
theorem fs0_ok : FsOk Try.prog fs0 := fsBut_ok fsOk _
theorem e0_8 (vs : List AV) (h : H) : call fs0 ex0 8 vs h = ex0 8 vs h := call_ex fs0 ex0 rfl _ _
theorem e0_15 (vs : List AV) (h : H) : call fs0 ex0 15 vs h = ex0 15 vs h := call_ex fs0 ex0 rfl _ _
theorem e0_17 (vs : List AV) (h : H) : call fs0 ex0 17 vs h = ex0 17 vs h := call_ex fs0 ex0 rfl _ _

/-- Points, in cells. -/
def pts (l : List Int) : List (List AV) := l.map fun x => [.int .u64 x]
noncomputable def sval (c1 c2 : Int) (mu ad : Int → Int → Int) (id salt k : Int) : Int := mix (ad (ad (mu (IntKind.u64.wrap id) c1) (mu (IntKind.u64.wrap salt) c2)) k)
theorem seats_run {cf : FuncId → List AV → M AV} (e15 : ∀ v h, cf 15 [.int .u64 v] h = some (.int .u64 (mix v), h)) {mu ad : Int → Int → Int} (mu_eq : ∀ a b, binV .mul (.int .u64 a) (.int .u64 b) = some (.int .u64 (mu a b))) (ad_eq : ∀ a b, binV .add (.int .u64 a) (.int .u64 b) = some (.int .u64 (ad a b)))
    (a1 : ad 0 1 = 1) (a2 : ad 1 1 = 2) (a3 : ad 2 1 = 3) (a4 : ad 3 1 = 4) (id salt c1 c2 : Int) (h : H) :
    ∃ k, runFn cf itw (⟨2, 25, (.seq (.reg [⟨(some 4), .p .move, [.lit .nilslice], none⟩])
  (.seq (.reg [⟨(some 5), .p .move, [.lit .nilslice], none⟩])
  (.seq (.seq (.reg [⟨(some 7), .p .move, [.lit (.int .u64 0)], none⟩])
  (.block 0 (.loop [0, 1, 5, 7] (.seq (.reg [⟨(some 8), .p (.bin .lss), [.tmp 7, .lit (.int .u64 4)], none⟩])
  (.seq (.cond (.tmp 8) .skip
  (.exit 0))
  (.seq (.block 1 (.seq (.reg [⟨(some 9), .p .move, [.tmp 7], none⟩,
    ⟨(some 6), .p .move, [.tmp 9], none⟩])
  (.reg [⟨(some 10), .p .move, [.tmp 5], none⟩,
    ⟨(some 11), .p .move, [.tmp 0], none⟩,
    ⟨(some 12), .p (.convInt .u64), [.tmp 11], none⟩,
    ⟨(some 13), .p (.bin .mul), [.tmp 12, .lit (.int .u64 c1)], none⟩,
    ⟨(some 14), .p .move, [.tmp 1], none⟩,
    ⟨(some 15), .p (.convInt .u64), [.tmp 14], none⟩,
    ⟨(some 16), .p (.bin .mul), [.tmp 15, .lit (.int .u64 c2)], none⟩,
    ⟨(some 17), .p (.bin .add), [.tmp 13, .tmp 16], none⟩,
    ⟨(some 18), .p .move, [.tmp 6], none⟩,
    ⟨(some 19), .p (.bin .add), [.tmp 17, .tmp 18], none⟩,
    ⟨(some 20), .h (.call 15), [.tmp 19], none⟩,
    ⟨(some 21), .a (.buildSlice 1 1 [(.int .u64 0)] [0]), [.tmp 20], none⟩,
    ⟨(some 22), .h (.append 1 false), [.tmp 10, .tmp 21], none⟩,
    ⟨(some 5), .p .move, [.tmp 22], none⟩])))
  (.reg [⟨(some 23), .p (.bin .add), [.tmp 7, .lit (.int .u64 1)], none⟩,
    ⟨(some 7), .p .move, [.tmp 23], none⟩])))))))
  (.seq (.reg [⟨(some 24), .p .move, [.tmp 5], none⟩,
    ⟨(some 4), .p .move, [.tmp 24], none⟩])
  .ret)))), [.tmp 4]⟩) [.int .i64 id, .int .i64 salt] h = some (.slice (h.length + 7) 1 0 4 4 false, h ++ k) ∧
      (h ++ k)[h.length + 7]? = some (.row 1 (pts [sval c1 c2 mu ad id salt 0, sval c1 c2 mu ad id salt 1, sval c1 c2 mu ad id salt 2, sval c1 c2 mu ad id salt 3]) true true) := by
  simp [itw_eq, appendV, evalHeap, yld_some, exec_reg, exec_dreg, exec_seq, exec_cond, exec_block, exec_scope, exec_exit, exec_ret, exec_skip, exec_loop, ops_nil, ops_cons, ops_cons_gd, stages_nil, stages_cons_n, stages_cons_h, recheck, wantsOp, AV.same, sames, evalOp_p, evalOp_r, evalOp_a, evalOp_call, evalOp_callV, evalOp_store, evalOp_append, evalOp_clear, evalOp_mapUpdate, evalOp_delete, pP_move, pP_pick, pP_build, pP_nil_ptr, pP_nil_func, pP_bin, pP_eq, pP_neg, pP_inv, pP_not, pP_convInt, pP_convStr, pP_fieldAddr, pP_field, pP_indexAddr, pP_indexStr, pP_sliceStr, pP_sliceSl, pP_lenStr, pP_lenNil, pP_lenSl, pP_min, pP_max, pP_extract, pP_mkfn, bV_sub, bV_quo, bV_rem, bV_and, bV_or, bV_xor, bV_andNot, bV_eql, bV_neq, bV_lss, bV_leq, bV_gtr, bV_geq, bV_shl, bV_shr, bV_str, eV_bool, eV_nn, eV_np, eV_pn, eV_snn, eV_sns, eV_ssn, eV_mnn, eV_mnm, eV_mmn, eV_fnn, eV_fnf, eV_ffn, eV_agg, rP_load, rP_lenNil, rP_str0, rdEl_K, rdK_row, aP_alloc, aP_box, aP_buildSlice, aP_makeSlice, aP_makeMap, aP_toBytes, hP_store, storeK_some, st_K, stK_row, stE_some, cells_agg, cells_bool, scalar_bool, cells_int, scalar_int, cells_str, scalar_str, cells_nilptr, scalar_nilptr, cells_ptr, scalar_ptr, cells_nilslice, scalar_nilslice, cells_slice, scalar_slice, cells_nilmap, scalar_nilmap, cells_map, scalar_map, cells_nilfunc, scalar_nilfunc, cells_func, scalar_func, eqCells, eqLeaf, run_toL, toL_some, ev_toL, getD_toL, put_toL, keep_toL, asc, fput_same, fput_ne, fbase_nil, fbase_cons, fkeep_nil, fkeep_cons, fzero, fnone, List.map_cons, List.map_nil, ev_lit, put_none, resVals, resVal, resOf, partV, fillA, putCells, fillEls, strBin, minV, optNat, appendEls, elsOf, sliceSlV, sliceStrV, List.replicate, List.getElem?_append_left, List.getElem?_append_right, List.set_append_left, List.set_append_right, List.getElem?_set_self, List.getElem?_set_ne, hp_get0, hp_get, hp_get2, hp_set0, hp_set, hq_get0, hq_get, hq_get2, mu_eq, ad_eq, a1, a2, a3, a4, e15]
  rfl
theorem ad_val (a b : Int) : ad a b = IntKind.u64.wrap (a + b) := by
  have h := ad_eq a b
  rw [bV_add] at h
  simpa using h.symm
theorem seats_ex (id salt : Int) : ∃ L : List Int, L.length = 4 ∧ ∀ h : H, ∃ k, call fs0 ex0 11 [.int .i64 id, .int .i64 salt] h = some (.slice (h.length + 7) 1 0 4 4 false, h ++ k) ∧ (h ++ k)[h.length + 7]? = some (.row 1 (pts L) true true) := by
  refine ⟨[sval 1000003 7919 mu ad id salt 0, sval 1000003 7919 mu ad id salt 1, sval 1000003 7919 mu ad id salt 2, sval 1000003 7919 mu ad id salt 3], ?_, fun h => ?_⟩
  rotate_left
  · rw [call_eq fs0 ex0 (f := 11) (sf := sf11) rfl]
    exact seats_run (fun v h => (e0_15 _ _).trans rfl) mu_eq ad_eq (by rw [ad_val]; exact wrap_u64 (by omega) (by omega)) (by rw [ad_val]; exact wrap_u64 (by omega) (by omega)) (by rw [ad_val]; exact wrap_u64 (by omega) (by omega)) (by rw [ad_val]; exact wrap_u64 (by omega) (by omega)) id salt _ _ h
  · rfl
noncomputable def sts (id salt : Int) : List Int := Classical.choose (seats_ex id salt)
theorem sts_len (id salt : Int) : (sts id salt).length = 4 := (Classical.choose_spec (seats_ex id salt)).1
theorem seats_call (id salt : Int) (h : H) : ∃ k, call fs0 ex0 11 [.int .i64 id, .int .i64 salt] h = some (.slice (h.length + 7) 1 0 4 4 false, h ++ k) ∧ (h ++ k)[h.length + 7]? = some (.row 1 (pts (sts id salt)) true true) := (Classical.choose_spec (seats_ex id salt)).2 h

/-! How much room. -/
def least (a : Int) (l : List Int) (d : Int) : Int := l.foldl (fun d t => if far a t < d then far a t else d) d
def rm (a : Int) (l : List Int) : Int := least a l (far a (l.headD 0))
theorem least_snoc (a : Int) (l : List Int) (t d : Int) : least a (l ++ [t]) d = if far a t < least a l d then far a t else least a l d := by unfold least; rw [List.foldl_append]; rfl
theorem far_nn (a b : Int) : 0 ≤ far a b := by
  unfold far
  simp only [IntKind.wrap, IntKind.bits, IntKind.signed, IntKind.min, IntKind.max]
  simp
  omega
theorem least_nn {a : Int} : ∀ {l : List Int} {d : Int}, 0 ≤ d → 0 ≤ least a l d
  | [], d, h => h
  | t :: l, d, h => by
    simp only [least, List.foldl_cons]
    refine least_nn (l := l) ?_
    split
    · exact far_nn _ _
    · exact h
theorem rm_nn (a : Int) (l : List Int) : 0 ≤ rm a l := least_nn (far_nn _ _)
set_option maxHeartbeats 4000000 in
theorem room_call {h : H} {b c : Nat} {L : List Int} (hb : h[b]? = some (.row 1 (pts L) false false)) (hL : 0 < L.length) (hlen : L.length < 4294967296)  (a : Int) :
    call fs0 ex0 23 [.int .u64 a, .slice b 1 0 L.length c true] h = some (.int .u64 (rm a L), h) := by
  suffices hs : Yld (call fs0 ex0 23 [.int .u64 a, .slice b 1 0 L.length c true] h) fun r => r = (.int .u64 (rm a L), h) by
    obtain ⟨r, e, rfl⟩ := hs
    exact e
  refine yld_shut fun Q hQ => ?_
  rw [call_eq fs0 ex0 (f := 23) (sf := sf23) rfl]
  have hla : (pts L).length = L.length := by simp [pts]
  unfold rm at hQ
  have hp0 : (pts L)[0]? = some [.int .u64 (L.headD 0)] := by
    cases L with
    | nil => simp at hL
    | cons x l => rfl
  generalize L.headD 0 = x0 at hp0 hQ
  simp [sf23, yld_some, exec_reg, exec_dreg, exec_seq, exec_cond, exec_block, exec_scope, exec_exit, exec_ret, exec_skip, exec_loop, ops_nil, ops_cons, ops_cons_gd, stages_nil, stages_cons_n, stages_cons_h, recheck, wantsOp, AV.same, sames, evalOp_p, evalOp_r, evalOp_a, evalOp_call, evalOp_callV, evalOp_store, evalOp_append, evalOp_clear, evalOp_mapUpdate, evalOp_delete, pP_move, pP_pick, pP_build, pP_nil_ptr, pP_nil_func, pP_bin, pP_eq, pP_neg, pP_inv, pP_not, pP_convInt, pP_convStr, pP_fieldAddr, pP_field, pP_indexAddr, pP_indexStr, pP_sliceStr, pP_sliceSl, pP_lenStr, pP_lenNil, pP_lenSl, pP_min, pP_max, pP_extract, pP_mkfn, bV_add, bV_sub, bV_mul, bV_quo, bV_rem, bV_and, bV_or, bV_xor, bV_andNot, bV_eql, bV_neq, bV_lss, bV_leq, bV_gtr, bV_geq, bV_shl, bV_shr, bV_str, eV_bool, eV_nn, eV_np, eV_pn, eV_snn, eV_sns, eV_ssn, eV_mnn, eV_mnm, eV_mmn, eV_fnn, eV_fnf, eV_ffn, eV_agg, rP_load, rP_lenNil, rP_str0, rdEl_K, rdK_row, aP_alloc, aP_box, aP_buildSlice, aP_makeSlice, aP_makeMap, aP_toBytes, hP_store, storeK_some, st_K, stK_row, stE_some, cells_agg, cells_bool, scalar_bool, cells_int, scalar_int, cells_str, scalar_str, cells_nilptr, scalar_nilptr, cells_ptr, scalar_ptr, cells_nilslice, scalar_nilslice, cells_slice, scalar_slice, cells_nilmap, scalar_nilmap, cells_map, scalar_map, cells_nilfunc, scalar_nilfunc, cells_func, scalar_func, eqCells, eqLeaf, run_toL, toL_some, ev_toL, getD_toL, put_toL, keep_toL, asc, fput_same, fput_ne, fbase_nil, fbase_cons, fkeep_nil, fkeep_cons, fzero, fnone, List.map_cons, List.map_nil, ev_lit, put_none, resVals, resVal, resOf, partV, fillA, putCells, fillEls, strBin, minV, optNat, appendEls, elsOf, sliceSlV, sliceStrV, List.replicate, List.getElem?_append_left, List.getElem?_append_right, List.set_append_left, List.set_append_right, List.getElem?_set_self, List.getElem?_set_ne, hq_get0, hq_get, hq_get2, hq_get3, hp_get0, hp_get, hp_get2, hp_get3, hp_set0, hp_set, hp_set2, hp_set3, wr_0, wr_1, wr_2, wr_3, wr_4, wr_n1, hb, get_app hb, set_app hb, get_set_same hb, get_set_app hb, set_set_app hb, len_beq hb, beq_len hb, hL, hp0, e0_17, ex0]
  repeat (first | apply yld_endFn | apply yld_seqK | apply yld_blockK | apply yld_regK | apply yld_opsK | apply yld_putK | apply yld_stgK | apply yld_chkK)
  refine yld_rounds (fun z e k => ∃ f i, e = toL 26 f ∧ z = L.length - i ∧ i ≤ L.length ∧ f 0 = .int .u64 a ∧ f 5 = .int .u64 (least a (L.take i) (far a x0)) ∧ f 13 = .slice b 1 0 L.length c true ∧ f 14 = .int .i64 L.length ∧ f 15 = .int .i64 (i : Nat) ∧ k = h) (L.length - 0) ?_ ?_
  · exact ⟨_, 0, rfl, rfl, Nat.zero_le _, rfl, rfl, rfl, rfl, rfl, rfl⟩
  · rintro J R hJ hR z e k ⟨f, i, rfl, rfl, hi, f0, fd, fv, fl, fi, rfl⟩
    by_cases hil : i < L.length
    · have hp : (pts L)[i]? = some [.int .u64 L[i]] := by simp [pts, hil]
      have hw : IntKind.i64.wrap ((i : Int) + 1) = ((i + 1 : Nat) : Int) := wrap_i64 (by omega) (by omega)
      have hx : (pts L)[i]'(by simpa [pts] using hil) = [.int .u64 L[i]] := by simp [pts]
      by_cases hlt : far a L[i] < least a (L.take i) (far a x0)
      · have hv : least a (L.take (i + 1)) (far a x0) = far a L[i] := by rw [take_succ_get hil, least_snoc, if_pos hlt]
        simp [yld_some, exec_reg, exec_dreg, exec_seq, exec_cond, exec_block, exec_scope, exec_exit, exec_ret, exec_skip, exec_loop, ops_nil, ops_cons, ops_cons_gd, stages_nil, stages_cons_n, stages_cons_h, recheck, wantsOp, AV.same, sames, evalOp_p, evalOp_r, evalOp_a, evalOp_call, evalOp_callV, evalOp_store, evalOp_append, evalOp_clear, evalOp_mapUpdate, evalOp_delete, pP_move, pP_pick, pP_build, pP_nil_ptr, pP_nil_func, pP_bin, pP_eq, pP_neg, pP_inv, pP_not, pP_convInt, pP_convStr, pP_fieldAddr, pP_field, pP_indexAddr, pP_indexStr, pP_sliceStr, pP_sliceSl, pP_lenStr, pP_lenNil, pP_lenSl, pP_min, pP_max, pP_extract, pP_mkfn, bV_add, bV_sub, bV_mul, bV_quo, bV_rem, bV_and, bV_or, bV_xor, bV_andNot, bV_eql, bV_neq, bV_lss, bV_leq, bV_gtr, bV_geq, bV_shl, bV_shr, bV_str, eV_bool, eV_nn, eV_np, eV_pn, eV_snn, eV_sns, eV_ssn, eV_mnn, eV_mnm, eV_mmn, eV_fnn, eV_fnf, eV_ffn, eV_agg, rP_load, rP_lenNil, rP_str0, rdEl_K, rdK_row, aP_alloc, aP_box, aP_buildSlice, aP_makeSlice, aP_makeMap, aP_toBytes, hP_store, storeK_some, st_K, stK_row, stE_some, cells_agg, cells_bool, scalar_bool, cells_int, scalar_int, cells_str, scalar_str, cells_nilptr, scalar_nilptr, cells_ptr, scalar_ptr, cells_nilslice, scalar_nilslice, cells_slice, scalar_slice, cells_nilmap, scalar_nilmap, cells_map, scalar_map, cells_nilfunc, scalar_nilfunc, cells_func, scalar_func, eqCells, eqLeaf, run_toL, toL_some, ev_toL, getD_toL, put_toL, keep_toL, asc, fput_same, fput_ne, fbase_nil, fbase_cons, fkeep_nil, fkeep_cons, fzero, fnone, List.map_cons, List.map_nil, ev_lit, put_none, resVals, resVal, resOf, partV, fillA, putCells, fillEls, strBin, minV, optNat, appendEls, elsOf, sliceSlV, sliceStrV, List.replicate, List.getElem?_append_left, List.getElem?_append_right, List.set_append_left, List.set_append_right, List.getElem?_set_self, List.getElem?_set_ne, hq_get0, hq_get, hq_get2, hq_get3, hp_get0, hp_get, hp_get2, hp_get3, hp_set0, hp_set, hp_set2, hp_set3, wr_0, wr_1, wr_2, wr_3, wr_4, wr_n1, f0, fd, fv, fl, fi, hil, hb, get_app hb, set_app hb, get_set_same hb, get_set_app hb, set_set_app hb, len_beq hb, beq_len hb, hp, hx, hla, e0_17, ex0, hw, hlt]
        exact ⟨L.length - (i + 1), by omega, hJ _ _ _ ⟨_, i + 1, rfl, rfl, hil, rfl, by rw [hv]; rfl, rfl, rfl, rfl, rfl⟩⟩
      · have hv : least a (L.take (i + 1)) (far a x0) = least a (L.take i) (far a x0) := by rw [take_succ_get hil, least_snoc, if_neg hlt]
        simp [yld_some, exec_reg, exec_dreg, exec_seq, exec_cond, exec_block, exec_scope, exec_exit, exec_ret, exec_skip, exec_loop, ops_nil, ops_cons, ops_cons_gd, stages_nil, stages_cons_n, stages_cons_h, recheck, wantsOp, AV.same, sames, evalOp_p, evalOp_r, evalOp_a, evalOp_call, evalOp_callV, evalOp_store, evalOp_append, evalOp_clear, evalOp_mapUpdate, evalOp_delete, pP_move, pP_pick, pP_build, pP_nil_ptr, pP_nil_func, pP_bin, pP_eq, pP_neg, pP_inv, pP_not, pP_convInt, pP_convStr, pP_fieldAddr, pP_field, pP_indexAddr, pP_indexStr, pP_sliceStr, pP_sliceSl, pP_lenStr, pP_lenNil, pP_lenSl, pP_min, pP_max, pP_extract, pP_mkfn, bV_add, bV_sub, bV_mul, bV_quo, bV_rem, bV_and, bV_or, bV_xor, bV_andNot, bV_eql, bV_neq, bV_lss, bV_leq, bV_gtr, bV_geq, bV_shl, bV_shr, bV_str, eV_bool, eV_nn, eV_np, eV_pn, eV_snn, eV_sns, eV_ssn, eV_mnn, eV_mnm, eV_mmn, eV_fnn, eV_fnf, eV_ffn, eV_agg, rP_load, rP_lenNil, rP_str0, rdEl_K, rdK_row, aP_alloc, aP_box, aP_buildSlice, aP_makeSlice, aP_makeMap, aP_toBytes, hP_store, storeK_some, st_K, stK_row, stE_some, cells_agg, cells_bool, scalar_bool, cells_int, scalar_int, cells_str, scalar_str, cells_nilptr, scalar_nilptr, cells_ptr, scalar_ptr, cells_nilslice, scalar_nilslice, cells_slice, scalar_slice, cells_nilmap, scalar_nilmap, cells_map, scalar_map, cells_nilfunc, scalar_nilfunc, cells_func, scalar_func, eqCells, eqLeaf, run_toL, toL_some, ev_toL, getD_toL, put_toL, keep_toL, asc, fput_same, fput_ne, fbase_nil, fbase_cons, fkeep_nil, fkeep_cons, fzero, fnone, List.map_cons, List.map_nil, ev_lit, put_none, resVals, resVal, resOf, partV, fillA, putCells, fillEls, strBin, minV, optNat, appendEls, elsOf, sliceSlV, sliceStrV, List.replicate, List.getElem?_append_left, List.getElem?_append_right, List.set_append_left, List.set_append_right, List.getElem?_set_self, List.getElem?_set_ne, hq_get0, hq_get, hq_get2, hq_get3, hp_get0, hp_get, hp_get2, hp_get3, hp_set0, hp_set, hp_set2, hp_set3, wr_0, wr_1, wr_2, wr_3, wr_4, wr_n1, f0, fd, fv, fl, fi, hil, hb, get_app hb, set_app hb, get_set_same hb, get_set_app hb, set_set_app hb, len_beq hb, beq_len hb, hp, hx, hla, e0_17, ex0, hw, hlt]
        exact ⟨L.length - (i + 1), by omega, hJ _ _ _ ⟨_, i + 1, rfl, rfl, hil, rfl, by rw [hv]; rfl, rfl, rfl, rfl, rfl⟩⟩
    · have hin : i = L.length := by omega
      subst hin
      rw [List.take_length] at fd
      simp [yld_some, exec_reg, exec_dreg, exec_seq, exec_cond, exec_block, exec_scope, exec_exit, exec_ret, exec_skip, exec_loop, ops_nil, ops_cons, ops_cons_gd, stages_nil, stages_cons_n, stages_cons_h, recheck, wantsOp, AV.same, sames, evalOp_p, evalOp_r, evalOp_a, evalOp_call, evalOp_callV, evalOp_store, evalOp_append, evalOp_clear, evalOp_mapUpdate, evalOp_delete, pP_move, pP_pick, pP_build, pP_nil_ptr, pP_nil_func, pP_bin, pP_eq, pP_neg, pP_inv, pP_not, pP_convInt, pP_convStr, pP_fieldAddr, pP_field, pP_indexAddr, pP_indexStr, pP_sliceStr, pP_sliceSl, pP_lenStr, pP_lenNil, pP_lenSl, pP_min, pP_max, pP_extract, pP_mkfn, bV_add, bV_sub, bV_mul, bV_quo, bV_rem, bV_and, bV_or, bV_xor, bV_andNot, bV_eql, bV_neq, bV_lss, bV_leq, bV_gtr, bV_geq, bV_shl, bV_shr, bV_str, eV_bool, eV_nn, eV_np, eV_pn, eV_snn, eV_sns, eV_ssn, eV_mnn, eV_mnm, eV_mmn, eV_fnn, eV_fnf, eV_ffn, eV_agg, rP_load, rP_lenNil, rP_str0, rdEl_K, rdK_row, aP_alloc, aP_box, aP_buildSlice, aP_makeSlice, aP_makeMap, aP_toBytes, hP_store, storeK_some, st_K, stK_row, stE_some, cells_agg, cells_bool, scalar_bool, cells_int, scalar_int, cells_str, scalar_str, cells_nilptr, scalar_nilptr, cells_ptr, scalar_ptr, cells_nilslice, scalar_nilslice, cells_slice, scalar_slice, cells_nilmap, scalar_nilmap, cells_map, scalar_map, cells_nilfunc, scalar_nilfunc, cells_func, scalar_func, eqCells, eqLeaf, run_toL, toL_some, ev_toL, getD_toL, put_toL, keep_toL, asc, fput_same, fput_ne, fbase_nil, fbase_cons, fkeep_nil, fkeep_cons, fzero, fnone, List.map_cons, List.map_nil, ev_lit, put_none, resVals, resVal, resOf, partV, fillA, putCells, fillEls, strBin, minV, optNat, appendEls, elsOf, sliceSlV, sliceStrV, List.replicate, List.getElem?_append_left, List.getElem?_append_right, List.set_append_left, List.set_append_right, List.getElem?_set_self, List.getElem?_set_ne, hq_get0, hq_get, hq_get2, hq_get3, hp_get0, hp_get, hp_get2, hp_get3, hp_set0, hp_set, hp_set2, hp_set3, wr_0, wr_1, wr_2, wr_3, wr_4, wr_n1, f0, fd, fv, fl, fi]
      refine hR _ ?_
      simp [yld_some, exec_reg, exec_dreg, exec_seq, exec_cond, exec_block, exec_scope, exec_exit, exec_ret, exec_skip, exec_loop, ops_nil, ops_cons, ops_cons_gd, stages_nil, stages_cons_n, stages_cons_h, recheck, wantsOp, AV.same, sames, evalOp_p, evalOp_r, evalOp_a, evalOp_call, evalOp_callV, evalOp_store, evalOp_append, evalOp_clear, evalOp_mapUpdate, evalOp_delete, pP_move, pP_pick, pP_build, pP_nil_ptr, pP_nil_func, pP_bin, pP_eq, pP_neg, pP_inv, pP_not, pP_convInt, pP_convStr, pP_fieldAddr, pP_field, pP_indexAddr, pP_indexStr, pP_sliceStr, pP_sliceSl, pP_lenStr, pP_lenNil, pP_lenSl, pP_min, pP_max, pP_extract, pP_mkfn, bV_add, bV_sub, bV_mul, bV_quo, bV_rem, bV_and, bV_or, bV_xor, bV_andNot, bV_eql, bV_neq, bV_lss, bV_leq, bV_gtr, bV_geq, bV_shl, bV_shr, bV_str, eV_bool, eV_nn, eV_np, eV_pn, eV_snn, eV_sns, eV_ssn, eV_mnn, eV_mnm, eV_mmn, eV_fnn, eV_fnf, eV_ffn, eV_agg, rP_load, rP_lenNil, rP_str0, rdEl_K, rdK_row, aP_alloc, aP_box, aP_buildSlice, aP_makeSlice, aP_makeMap, aP_toBytes, hP_store, storeK_some, st_K, stK_row, stE_some, cells_agg, cells_bool, scalar_bool, cells_int, scalar_int, cells_str, scalar_str, cells_nilptr, scalar_nilptr, cells_ptr, scalar_ptr, cells_nilslice, scalar_nilslice, cells_slice, scalar_slice, cells_nilmap, scalar_nilmap, cells_map, scalar_map, cells_nilfunc, scalar_nilfunc, cells_func, scalar_func, eqCells, eqLeaf, run_toL, toL_some, ev_toL, getD_toL, put_toL, keep_toL, asc, fput_same, fput_ne, fbase_nil, fbase_cons, fkeep_nil, fkeep_cons, fzero, fnone, List.map_cons, List.map_nil, ev_lit, put_none, resVals, resVal, resOf, partV, fillA, putCells, fillEls, strBin, minV, optNat, appendEls, elsOf, sliceSlV, sliceStrV, List.replicate, List.getElem?_append_left, List.getElem?_append_right, List.set_append_left, List.set_append_right, List.getElem?_set_self, List.getElem?_set_ne, hq_get0, hq_get, hq_get2, hq_get3, hp_get0, hp_get, hp_get2, hp_get3, hp_set0, hp_set, hp_set2, hp_set3, wr_0, wr_1, wr_2, wr_3, wr_4, wr_n1]
      exact hQ _ rfl
set_option maxHeartbeats 4000000 in
theorem door_call {h : H} {b c : Nat} {L : List Int} (hb : h[b]? = some (.row 1 (pts L) false false)) (hL : 0 < L.length) (hlen : L.length < 4294967296) {tb : Nat} (ht : h[tb]? = some (.row 1 [[.slice b 1 0 L.length c true]] true true)) (a : Int) :
    call fs0 ex0 21 [.int .u64 a, .ptr tb 0 0] h = some (.int .u64 (rm a L), h) := by
  suffices hs : Yld (call fs0 ex0 21 [.int .u64 a, .ptr tb 0 0] h) fun r => r = (.int .u64 (rm a L), h) by
    obtain ⟨r, e, rfl⟩ := hs
    exact e
  refine yld_shut fun Q hQ => ?_
  rw [call_eq fs0 ex0 (f := 21) (sf := sf21) rfl]
  have hla : (pts L).length = L.length := by simp [pts]
  unfold rm at hQ
  have hp0 : (pts L)[0]? = some [.int .u64 (L.headD 0)] := by
    cases L with
    | nil => simp at hL
    | cons x l => rfl
  generalize L.headD 0 = x0 at hp0 hQ
  simp [sf21, yld_some, exec_reg, exec_dreg, exec_seq, exec_cond, exec_block, exec_scope, exec_exit, exec_ret, exec_skip, exec_loop, ops_nil, ops_cons, ops_cons_gd, stages_nil, stages_cons_n, stages_cons_h, recheck, wantsOp, AV.same, sames, evalOp_p, evalOp_r, evalOp_a, evalOp_call, evalOp_callV, evalOp_store, evalOp_append, evalOp_clear, evalOp_mapUpdate, evalOp_delete, pP_move, pP_pick, pP_build, pP_nil_ptr, pP_nil_func, pP_bin, pP_eq, pP_neg, pP_inv, pP_not, pP_convInt, pP_convStr, pP_fieldAddr, pP_field, pP_indexAddr, pP_indexStr, pP_sliceStr, pP_sliceSl, pP_lenStr, pP_lenNil, pP_lenSl, pP_min, pP_max, pP_extract, pP_mkfn, bV_add, bV_sub, bV_mul, bV_quo, bV_rem, bV_and, bV_or, bV_xor, bV_andNot, bV_eql, bV_neq, bV_lss, bV_leq, bV_gtr, bV_geq, bV_shl, bV_shr, bV_str, eV_bool, eV_nn, eV_np, eV_pn, eV_snn, eV_sns, eV_ssn, eV_mnn, eV_mnm, eV_mmn, eV_fnn, eV_fnf, eV_ffn, eV_agg, rP_load, rP_lenNil, rP_str0, rdEl_K, rdK_row, aP_alloc, aP_box, aP_buildSlice, aP_makeSlice, aP_makeMap, aP_toBytes, hP_store, storeK_some, st_K, stK_row, stE_some, cells_agg, cells_bool, scalar_bool, cells_int, scalar_int, cells_str, scalar_str, cells_nilptr, scalar_nilptr, cells_ptr, scalar_ptr, cells_nilslice, scalar_nilslice, cells_slice, scalar_slice, cells_nilmap, scalar_nilmap, cells_map, scalar_map, cells_nilfunc, scalar_nilfunc, cells_func, scalar_func, eqCells, eqLeaf, run_toL, toL_some, ev_toL, getD_toL, put_toL, keep_toL, asc, fput_same, fput_ne, fbase_nil, fbase_cons, fkeep_nil, fkeep_cons, fzero, fnone, List.map_cons, List.map_nil, ev_lit, put_none, resVals, resVal, resOf, partV, fillA, putCells, fillEls, strBin, minV, optNat, appendEls, elsOf, sliceSlV, sliceStrV, List.replicate, List.getElem?_append_left, List.getElem?_append_right, List.set_append_left, List.set_append_right, List.getElem?_set_self, List.getElem?_set_ne, hq_get0, hq_get, hq_get2, hq_get3, hp_get0, hp_get, hp_get2, hp_get3, hp_set0, hp_set, hp_set2, hp_set3, wr_0, wr_1, wr_2, wr_3, wr_4, wr_n1, hb, get_app hb, set_app hb, get_set_same hb, get_set_app hb, set_set_app hb, len_beq hb, beq_len hb, hL, hp0, e0_17, ex0, ht, get_app ht, set_app ht, get_set_same ht, get_set_app ht, set_set_app ht, len_beq ht, beq_len ht]
  repeat (first | apply yld_endFn | apply yld_seqK | apply yld_blockK | apply yld_regK | apply yld_opsK | apply yld_putK | apply yld_stgK | apply yld_chkK)
  refine yld_rounds (fun z e k => ∃ f i, e = toL 25 f ∧ z = L.length - i ∧ i ≤ L.length ∧ f 0 = .int .u64 a ∧ f 4 = .int .u64 (least a (L.take i) (far a x0)) ∧ f 12 = .slice b 1 0 L.length c true ∧ f 13 = .int .i64 L.length ∧ f 14 = .int .i64 (i : Nat) ∧ k = h) (L.length - 0) ?_ ?_
  · exact ⟨_, 0, rfl, rfl, Nat.zero_le _, rfl, rfl, rfl, rfl, rfl, rfl⟩
  · rintro J R hJ hR z e k ⟨f, i, rfl, rfl, hi, f0, fd, fv, fl, fi, rfl⟩
    by_cases hil : i < L.length
    · have hp : (pts L)[i]? = some [.int .u64 L[i]] := by simp [pts, hil]
      have hw : IntKind.i64.wrap ((i : Int) + 1) = ((i + 1 : Nat) : Int) := wrap_i64 (by omega) (by omega)
      have hx : (pts L)[i]'(by simpa [pts] using hil) = [.int .u64 L[i]] := by simp [pts]
      by_cases hlt : far a L[i] < least a (L.take i) (far a x0)
      · have hv : least a (L.take (i + 1)) (far a x0) = far a L[i] := by rw [take_succ_get hil, least_snoc, if_pos hlt]
        simp [yld_some, exec_reg, exec_dreg, exec_seq, exec_cond, exec_block, exec_scope, exec_exit, exec_ret, exec_skip, exec_loop, ops_nil, ops_cons, ops_cons_gd, stages_nil, stages_cons_n, stages_cons_h, recheck, wantsOp, AV.same, sames, evalOp_p, evalOp_r, evalOp_a, evalOp_call, evalOp_callV, evalOp_store, evalOp_append, evalOp_clear, evalOp_mapUpdate, evalOp_delete, pP_move, pP_pick, pP_build, pP_nil_ptr, pP_nil_func, pP_bin, pP_eq, pP_neg, pP_inv, pP_not, pP_convInt, pP_convStr, pP_fieldAddr, pP_field, pP_indexAddr, pP_indexStr, pP_sliceStr, pP_sliceSl, pP_lenStr, pP_lenNil, pP_lenSl, pP_min, pP_max, pP_extract, pP_mkfn, bV_add, bV_sub, bV_mul, bV_quo, bV_rem, bV_and, bV_or, bV_xor, bV_andNot, bV_eql, bV_neq, bV_lss, bV_leq, bV_gtr, bV_geq, bV_shl, bV_shr, bV_str, eV_bool, eV_nn, eV_np, eV_pn, eV_snn, eV_sns, eV_ssn, eV_mnn, eV_mnm, eV_mmn, eV_fnn, eV_fnf, eV_ffn, eV_agg, rP_load, rP_lenNil, rP_str0, rdEl_K, rdK_row, aP_alloc, aP_box, aP_buildSlice, aP_makeSlice, aP_makeMap, aP_toBytes, hP_store, storeK_some, st_K, stK_row, stE_some, cells_agg, cells_bool, scalar_bool, cells_int, scalar_int, cells_str, scalar_str, cells_nilptr, scalar_nilptr, cells_ptr, scalar_ptr, cells_nilslice, scalar_nilslice, cells_slice, scalar_slice, cells_nilmap, scalar_nilmap, cells_map, scalar_map, cells_nilfunc, scalar_nilfunc, cells_func, scalar_func, eqCells, eqLeaf, run_toL, toL_some, ev_toL, getD_toL, put_toL, keep_toL, asc, fput_same, fput_ne, fbase_nil, fbase_cons, fkeep_nil, fkeep_cons, fzero, fnone, List.map_cons, List.map_nil, ev_lit, put_none, resVals, resVal, resOf, partV, fillA, putCells, fillEls, strBin, minV, optNat, appendEls, elsOf, sliceSlV, sliceStrV, List.replicate, List.getElem?_append_left, List.getElem?_append_right, List.set_append_left, List.set_append_right, List.getElem?_set_self, List.getElem?_set_ne, hq_get0, hq_get, hq_get2, hq_get3, hp_get0, hp_get, hp_get2, hp_get3, hp_set0, hp_set, hp_set2, hp_set3, wr_0, wr_1, wr_2, wr_3, wr_4, wr_n1, f0, fd, fv, fl, fi, hil, hb, get_app hb, set_app hb, get_set_same hb, get_set_app hb, set_set_app hb, len_beq hb, beq_len hb, hp, hx, hla, e0_17, ex0, hw, hlt]
        exact ⟨L.length - (i + 1), by omega, hJ _ _ _ ⟨_, i + 1, rfl, rfl, hil, rfl, by rw [hv]; rfl, rfl, rfl, rfl, rfl⟩⟩
      · have hv : least a (L.take (i + 1)) (far a x0) = least a (L.take i) (far a x0) := by rw [take_succ_get hil, least_snoc, if_neg hlt]
        simp [yld_some, exec_reg, exec_dreg, exec_seq, exec_cond, exec_block, exec_scope, exec_exit, exec_ret, exec_skip, exec_loop, ops_nil, ops_cons, ops_cons_gd, stages_nil, stages_cons_n, stages_cons_h, recheck, wantsOp, AV.same, sames, evalOp_p, evalOp_r, evalOp_a, evalOp_call, evalOp_callV, evalOp_store, evalOp_append, evalOp_clear, evalOp_mapUpdate, evalOp_delete, pP_move, pP_pick, pP_build, pP_nil_ptr, pP_nil_func, pP_bin, pP_eq, pP_neg, pP_inv, pP_not, pP_convInt, pP_convStr, pP_fieldAddr, pP_field, pP_indexAddr, pP_indexStr, pP_sliceStr, pP_sliceSl, pP_lenStr, pP_lenNil, pP_lenSl, pP_min, pP_max, pP_extract, pP_mkfn, bV_add, bV_sub, bV_mul, bV_quo, bV_rem, bV_and, bV_or, bV_xor, bV_andNot, bV_eql, bV_neq, bV_lss, bV_leq, bV_gtr, bV_geq, bV_shl, bV_shr, bV_str, eV_bool, eV_nn, eV_np, eV_pn, eV_snn, eV_sns, eV_ssn, eV_mnn, eV_mnm, eV_mmn, eV_fnn, eV_fnf, eV_ffn, eV_agg, rP_load, rP_lenNil, rP_str0, rdEl_K, rdK_row, aP_alloc, aP_box, aP_buildSlice, aP_makeSlice, aP_makeMap, aP_toBytes, hP_store, storeK_some, st_K, stK_row, stE_some, cells_agg, cells_bool, scalar_bool, cells_int, scalar_int, cells_str, scalar_str, cells_nilptr, scalar_nilptr, cells_ptr, scalar_ptr, cells_nilslice, scalar_nilslice, cells_slice, scalar_slice, cells_nilmap, scalar_nilmap, cells_map, scalar_map, cells_nilfunc, scalar_nilfunc, cells_func, scalar_func, eqCells, eqLeaf, run_toL, toL_some, ev_toL, getD_toL, put_toL, keep_toL, asc, fput_same, fput_ne, fbase_nil, fbase_cons, fkeep_nil, fkeep_cons, fzero, fnone, List.map_cons, List.map_nil, ev_lit, put_none, resVals, resVal, resOf, partV, fillA, putCells, fillEls, strBin, minV, optNat, appendEls, elsOf, sliceSlV, sliceStrV, List.replicate, List.getElem?_append_left, List.getElem?_append_right, List.set_append_left, List.set_append_right, List.getElem?_set_self, List.getElem?_set_ne, hq_get0, hq_get, hq_get2, hq_get3, hp_get0, hp_get, hp_get2, hp_get3, hp_set0, hp_set, hp_set2, hp_set3, wr_0, wr_1, wr_2, wr_3, wr_4, wr_n1, f0, fd, fv, fl, fi, hil, hb, get_app hb, set_app hb, get_set_same hb, get_set_app hb, set_set_app hb, len_beq hb, beq_len hb, hp, hx, hla, e0_17, ex0, hw, hlt]
        exact ⟨L.length - (i + 1), by omega, hJ _ _ _ ⟨_, i + 1, rfl, rfl, hil, rfl, by rw [hv]; rfl, rfl, rfl, rfl, rfl⟩⟩
    · have hin : i = L.length := by omega
      subst hin
      rw [List.take_length] at fd
      simp [yld_some, exec_reg, exec_dreg, exec_seq, exec_cond, exec_block, exec_scope, exec_exit, exec_ret, exec_skip, exec_loop, ops_nil, ops_cons, ops_cons_gd, stages_nil, stages_cons_n, stages_cons_h, recheck, wantsOp, AV.same, sames, evalOp_p, evalOp_r, evalOp_a, evalOp_call, evalOp_callV, evalOp_store, evalOp_append, evalOp_clear, evalOp_mapUpdate, evalOp_delete, pP_move, pP_pick, pP_build, pP_nil_ptr, pP_nil_func, pP_bin, pP_eq, pP_neg, pP_inv, pP_not, pP_convInt, pP_convStr, pP_fieldAddr, pP_field, pP_indexAddr, pP_indexStr, pP_sliceStr, pP_sliceSl, pP_lenStr, pP_lenNil, pP_lenSl, pP_min, pP_max, pP_extract, pP_mkfn, bV_add, bV_sub, bV_mul, bV_quo, bV_rem, bV_and, bV_or, bV_xor, bV_andNot, bV_eql, bV_neq, bV_lss, bV_leq, bV_gtr, bV_geq, bV_shl, bV_shr, bV_str, eV_bool, eV_nn, eV_np, eV_pn, eV_snn, eV_sns, eV_ssn, eV_mnn, eV_mnm, eV_mmn, eV_fnn, eV_fnf, eV_ffn, eV_agg, rP_load, rP_lenNil, rP_str0, rdEl_K, rdK_row, aP_alloc, aP_box, aP_buildSlice, aP_makeSlice, aP_makeMap, aP_toBytes, hP_store, storeK_some, st_K, stK_row, stE_some, cells_agg, cells_bool, scalar_bool, cells_int, scalar_int, cells_str, scalar_str, cells_nilptr, scalar_nilptr, cells_ptr, scalar_ptr, cells_nilslice, scalar_nilslice, cells_slice, scalar_slice, cells_nilmap, scalar_nilmap, cells_map, scalar_map, cells_nilfunc, scalar_nilfunc, cells_func, scalar_func, eqCells, eqLeaf, run_toL, toL_some, ev_toL, getD_toL, put_toL, keep_toL, asc, fput_same, fput_ne, fbase_nil, fbase_cons, fkeep_nil, fkeep_cons, fzero, fnone, List.map_cons, List.map_nil, ev_lit, put_none, resVals, resVal, resOf, partV, fillA, putCells, fillEls, strBin, minV, optNat, appendEls, elsOf, sliceSlV, sliceStrV, List.replicate, List.getElem?_append_left, List.getElem?_append_right, List.set_append_left, List.set_append_right, List.getElem?_set_self, List.getElem?_set_ne, hq_get0, hq_get, hq_get2, hq_get3, hp_get0, hp_get, hp_get2, hp_get3, hp_set0, hp_set, hp_set2, hp_set3, wr_0, wr_1, wr_2, wr_3, wr_4, wr_n1, f0, fd, fv, fl, fi]
      refine hR _ ?_
      simp [yld_some, exec_reg, exec_dreg, exec_seq, exec_cond, exec_block, exec_scope, exec_exit, exec_ret, exec_skip, exec_loop, ops_nil, ops_cons, ops_cons_gd, stages_nil, stages_cons_n, stages_cons_h, recheck, wantsOp, AV.same, sames, evalOp_p, evalOp_r, evalOp_a, evalOp_call, evalOp_callV, evalOp_store, evalOp_append, evalOp_clear, evalOp_mapUpdate, evalOp_delete, pP_move, pP_pick, pP_build, pP_nil_ptr, pP_nil_func, pP_bin, pP_eq, pP_neg, pP_inv, pP_not, pP_convInt, pP_convStr, pP_fieldAddr, pP_field, pP_indexAddr, pP_indexStr, pP_sliceStr, pP_sliceSl, pP_lenStr, pP_lenNil, pP_lenSl, pP_min, pP_max, pP_extract, pP_mkfn, bV_add, bV_sub, bV_mul, bV_quo, bV_rem, bV_and, bV_or, bV_xor, bV_andNot, bV_eql, bV_neq, bV_lss, bV_leq, bV_gtr, bV_geq, bV_shl, bV_shr, bV_str, eV_bool, eV_nn, eV_np, eV_pn, eV_snn, eV_sns, eV_ssn, eV_mnn, eV_mnm, eV_mmn, eV_fnn, eV_fnf, eV_ffn, eV_agg, rP_load, rP_lenNil, rP_str0, rdEl_K, rdK_row, aP_alloc, aP_box, aP_buildSlice, aP_makeSlice, aP_makeMap, aP_toBytes, hP_store, storeK_some, st_K, stK_row, stE_some, cells_agg, cells_bool, scalar_bool, cells_int, scalar_int, cells_str, scalar_str, cells_nilptr, scalar_nilptr, cells_ptr, scalar_ptr, cells_nilslice, scalar_nilslice, cells_slice, scalar_slice, cells_nilmap, scalar_nilmap, cells_map, scalar_map, cells_nilfunc, scalar_nilfunc, cells_func, scalar_func, eqCells, eqLeaf, run_toL, toL_some, ev_toL, getD_toL, put_toL, keep_toL, asc, fput_same, fput_ne, fbase_nil, fbase_cons, fkeep_nil, fkeep_cons, fzero, fnone, List.map_cons, List.map_nil, ev_lit, put_none, resVals, resVal, resOf, partV, fillA, putCells, fillEls, strBin, minV, optNat, appendEls, elsOf, sliceSlV, sliceStrV, List.replicate, List.getElem?_append_left, List.getElem?_append_right, List.set_append_left, List.set_append_right, List.getElem?_set_self, List.getElem?_set_ne, hq_get0, hq_get, hq_get2, hq_get3, hp_get0, hp_get, hp_get2, hp_get3, hp_set0, hp_set, hp_set2, hp_set3, wr_0, wr_1, wr_2, wr_3, wr_4, wr_n1]
      exact hQ _ rfl
end Go.Proofs.Ythomemhollhljaa.St
