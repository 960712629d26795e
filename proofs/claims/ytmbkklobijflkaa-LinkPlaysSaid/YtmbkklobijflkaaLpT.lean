/- The document's link: the time goes on. -/
import Derived.Test.YtmbkklobijflkaaLpS
set_option maxRecDepth 100000
set_option linter.unusedVariables false
set_option linter.unusedSimpArgs false
namespace Go.Proofs.Ytmbkklobijflkaa.Lp
open Go Go.Eng F Lk Bk BkI

section
variable {k : H} {r : Nat} {ov kv : AV} {q : Rs}
theorem rtick_quiet (a : RefAt k r ov kv q) (hl : q.O.length < 100000) (hn : 0 ≤ q.now ∧ q.now < 4611686018427387904) (hq : q.O = [] ∨ ∃ w ∈ q.O.head?, q.now + 1 - w.at_ < 4 ∧ 0 ≤ w.at_ ∧ w.at_ < 4611686018427387904) :
    Yld (call Lp.fs3 Lp.ex3 20 [.ptr r 0 0] k) fun p => ∃ k', p = (.nilslice, k') ∧ RefAt k' r ov kv { q with now := q.now + 1 } ∧ Chg k k' [r] := by
  refine yld_shut fun Q hQ => ?_
  have hr := a.row
  have hw : IntKind.i64.wrap (q.now + 1) = q.now + 1 := wrap_i64 (by omega) (by omega)
  have lo := a.oo.len
  rw [rns_len] at lo
  have cc : Chg k (k.set r (rrow { q with now := q.now + 1 } ov kv)) [r] := (Chg.refl _ _).set (.inl (by simp))
  have fin := hQ (.nilslice, k.set r (rrow { q with now := q.now + 1 } ov kv)) ⟨_, rfl, ⟨get_set_same hr, a.oo.keep0 cc (fun z hz => by simp only [List.mem_singleton]; rintro rfl; exact a.no hz), a.kk.keep0 cc (fun z hz => by simp only [List.mem_singleton]; rintro rfl; exact a.nk hz), a.no, a.nk, a.cap⟩, cc⟩
  rw [call_eq Lp.fs3 Lp.ex3 (f := 20) (sf := sf20) rfl]
  rcases hq with h0 | ⟨w, hw0, hq, hw1, hw2⟩
  · have hz : ((q.O.length : Int) == 0) = true := by rw [h0]; rfl
    unfold rrow at hr fin
    simp [sf20, yld_some, exec_reg, exec_dreg, exec_seq, exec_cond, exec_block, exec_scope, exec_exit, exec_ret, exec_skip, exec_loop, ops_nil, ops_cons, ops_cons_gd, stages_nil, stages_cons_n, stages_cons_h, recheck, wantsOp, AV.same, sames, evalOp_p, evalOp_r, evalOp_a, evalOp_call, evalOp_callV, evalOp_store, evalOp_append, evalOp_clear, evalOp_mapUpdate, evalOp_delete, pP_move, pP_pick, pP_build, pP_nil_ptr, pP_nil_func, pP_bin, pP_eq, pP_neg, pP_inv, pP_not, pP_convInt, pP_convStr, pP_fieldAddr, pP_field, pP_indexAddr, pP_indexStr, pP_sliceStr, pP_sliceSl, pP_lenStr, pP_lenNil, pP_lenSl, pP_min, pP_max, pP_extract, pP_mkfn, bV_add, bV_sub, bV_mul, bV_quo, bV_rem, bV_and, bV_or, bV_xor, bV_andNot, bV_eql, bV_neq, bV_lss, bV_leq, bV_gtr, bV_geq, bV_shl, bV_shr, bV_str, eV_bool, eV_nn, eV_np, eV_pn, eV_snn, eV_sns, eV_ssn, eV_mnn, eV_mnm, eV_mmn, eV_fnn, eV_fnf, eV_ffn, eV_agg, rP_load, rP_lenNil, rP_str0, rdEl_K, rdK_row, aP_alloc, aP_box, aP_buildSlice, aP_makeSlice, aP_makeMap, aP_toBytes, hP_store, storeK_some, st_K, stK_row, stE_some, cells_agg, cells_bool, scalar_bool, cells_int, scalar_int, cells_str, scalar_str, cells_nilptr, scalar_nilptr, cells_ptr, scalar_ptr, cells_nilslice, scalar_nilslice, cells_slice, scalar_slice, cells_nilmap, scalar_nilmap, cells_map, scalar_map, cells_nilfunc, scalar_nilfunc, cells_func, scalar_func, eqCells, eqLeaf, run_toL, toL_some, ev_toL, getD_toL, put_toL, keep_toL, asc, fput_same, fput_ne, fbase_nil, fbase_cons, fkeep_nil, fkeep_cons, fzero, fnone, List.map_cons, List.map_nil, ev_lit, put_none, resVals, resVal, resOf, partV, fillA, putCells, fillEls, strBin, minV, optNat, appendEls, elsOf, sliceSlV, sliceStrV, List.replicate, List.getElem?_append_left, List.getElem?_append_right, List.set_append_left, List.set_append_right, List.getElem?_set_self, List.getElem?_set_ne, hq_get0, hq_get, hq_get2, hq_get3, hp_get0, hp_get, hp_get2, hp_get3, hp_set0, hp_set, hp_set2, hp_set3, wr_0, wr_1, wr_2, wr_3, wr_4, wr_n1, hr, get_app hr, set_app hr, get_set_same hr, get_set_app hr, set_set_app hr, len_beq hr, beq_len hr, lo, hw, hz, fin]
  · obtain ⟨l', hl'⟩ : ∃ l', q.O = w :: l' := by
      cases hs : q.O with
      | nil => rw [hs] at hw0; simp at hw0
      | cons a l => rw [hs] at hw0; simp at hw0; subst hw0; exact ⟨l, rfl⟩
    have hpos : 0 < q.O.length := by rw [hl']; simp
    have hz : ((q.O.length : Int) == 0) = false := beq_false (by omega)
    have hd : IntKind.i64.wrap (q.now + 1 - w.at_) = q.now + 1 - w.at_ := wrap_i64 (by omega) (by omega)
    have hq' : decide (q.now + 1 - w.at_ < 4) = true := dec_true hq
    have oo1 := a.oo.keep0 cc (fun z hz => by simp only [List.mem_singleton]; rintro rfl; exact a.no hz)
    obtain ⟨ip, gp⟩ := oo1.idx (i := 0) (by rw [rns_len]; exact hpos)
    have hp : (rns q.O)[0]? = some (rn w) := by rw [hl']; rfl
    rw [hp] at gp
    have ip' : evalP (.indexAddr 23) [ov, .int .i64 0] = some (.ptr (slB ov) 0 0) := ip
    unfold rrow at hr fin gp
    unfold rn at gp
    simp [sf20, yld_some, exec_reg, exec_dreg, exec_seq, exec_cond, exec_block, exec_scope, exec_exit, exec_ret, exec_skip, exec_loop, ops_nil, ops_cons, ops_cons_gd, stages_nil, stages_cons_n, stages_cons_h, recheck, wantsOp, AV.same, sames, evalOp_p, evalOp_r, evalOp_a, evalOp_call, evalOp_callV, evalOp_store, evalOp_append, evalOp_clear, evalOp_mapUpdate, evalOp_delete, pP_move, pP_pick, pP_build, pP_nil_ptr, pP_nil_func, pP_bin, pP_eq, pP_neg, pP_inv, pP_not, pP_convInt, pP_convStr, pP_fieldAddr, pP_field, pP_indexAddr, pP_indexStr, pP_sliceStr, pP_sliceSl, pP_lenStr, pP_lenNil, pP_lenSl, pP_min, pP_max, pP_extract, pP_mkfn, bV_add, bV_sub, bV_mul, bV_quo, bV_rem, bV_and, bV_or, bV_xor, bV_andNot, bV_eql, bV_neq, bV_lss, bV_leq, bV_gtr, bV_geq, bV_shl, bV_shr, bV_str, eV_bool, eV_nn, eV_np, eV_pn, eV_snn, eV_sns, eV_ssn, eV_mnn, eV_mnm, eV_mmn, eV_fnn, eV_fnf, eV_ffn, eV_agg, rP_load, rP_lenNil, rP_str0, rdEl_K, rdK_row, aP_alloc, aP_box, aP_buildSlice, aP_makeSlice, aP_makeMap, aP_toBytes, hP_store, storeK_some, st_K, stK_row, stE_some, cells_agg, cells_bool, scalar_bool, cells_int, scalar_int, cells_str, scalar_str, cells_nilptr, scalar_nilptr, cells_ptr, scalar_ptr, cells_nilslice, scalar_nilslice, cells_slice, scalar_slice, cells_nilmap, scalar_nilmap, cells_map, scalar_map, cells_nilfunc, scalar_nilfunc, cells_func, scalar_func, eqCells, eqLeaf, run_toL, toL_some, ev_toL, getD_toL, put_toL, keep_toL, asc, fput_same, fput_ne, fbase_nil, fbase_cons, fkeep_nil, fkeep_cons, fzero, fnone, List.map_cons, List.map_nil, ev_lit, put_none, resVals, resVal, resOf, partV, fillA, putCells, fillEls, strBin, minV, optNat, appendEls, elsOf, sliceSlV, sliceStrV, List.replicate, List.getElem?_append_left, List.getElem?_append_right, List.set_append_left, List.set_append_right, List.getElem?_set_self, List.getElem?_set_ne, hq_get0, hq_get, hq_get2, hq_get3, hp_get0, hp_get, hp_get2, hp_get3, hp_set0, hp_set, hp_set2, hp_set3, wr_0, wr_1, wr_2, wr_3, wr_4, wr_n1, hr, get_app hr, set_app hr, get_set_same hr, get_set_app hr, set_set_app hr, len_beq hr, beq_len hr, lo, hw, hz, hpos, ip', gp, hd, hq', fin]
def Rs.again (q : Rs) : List Pk := q.O.map fun w => ⟨q.me, q.peer, w.seq, q.came, w.x⟩
set_option maxHeartbeats 8000000 in
theorem rtick_again (a : RefAt k r ov kv q) (hl : q.O.length < 100000) (hn : 0 ≤ q.now ∧ q.now < 4611686018427387904) (hq : ∃ w ∈ q.O.head?, ¬ q.now + 1 - w.at_ < 4 ∧ 0 ≤ w.at_ ∧ w.at_ < 4611686018427387904) :
    Yld (call Lp.fs3 Lp.ex3 20 [.ptr r 0 0] k) fun p => ∃ k' out ov', p = (out, k') ∧ Chg k k' [r] ∧ RefAt k' r ov' kv { q with now := q.now + 1, O := q.O.map (Sn.anew (q.now + 1)) } ∧ OwnE k' 25 out (pks q.again) ∧ (∀ c ∈ foot ov', k.length ≤ c) ∧ ∀ c ∈ foot out, k.length ≤ c := by
  refine yld_shut fun Q hQ => ?_
  have hr := a.row
  have hrl := (List.getElem?_eq_some_iff.1 hr).1
  have hw : IntKind.i64.wrap (q.now + 1) = q.now + 1 := wrap_i64 (by omega) (by omega)
  have lo := a.oo.len
  rw [rns_len] at lo
  obtain ⟨A, hA⟩ : ∃ A : Blk, A = rrow { q with now := q.now + 1 } ov kv := ⟨_, rfl⟩
  have cc : Chg k (k.set r A) [r] := (Chg.refl _ _).set (.inl (by simp))
  have gr0 : (k.set r A)[r]? = some A := get_set_same hr
  obtain ⟨w, hw0, hq, hw1, hw2⟩ := hq
  obtain ⟨l', hl'⟩ : ∃ l', q.O = w :: l' := by
    cases hs : q.O with
    | nil => rw [hs] at hw0; simp at hw0
    | cons a l => rw [hs] at hw0; simp at hw0; subst hw0; exact ⟨l, rfl⟩
  have hpos : 0 < q.O.length := by rw [hl']; simp
  have hz : ((q.O.length : Int) == 0) = false := beq_false (by omega)
  have hd : IntKind.i64.wrap (q.now + 1 - w.at_) = q.now + 1 - w.at_ := wrap_i64 (by omega) (by omega)
  have hq' : decide (q.now + 1 - w.at_ < 4) = false := dec_false hq
  have oo1 := a.oo.keep0 cc (fun z hz => by simp only [List.mem_singleton]; rintro rfl; exact a.no hz)
  obtain ⟨ip, gp⟩ := oo1.idx (i := 0) (by rw [rns_len]; exact hpos)
  have hp : (rns q.O)[0]? = some (rn w) := by rw [hl']; rfl
  rw [hp] at gp
  have ip' : evalP (.indexAddr 23) [ov, .int .i64 0] = some (.ptr (slB ov) 0 0) := ip
  obtain ⟨c, k1, e1, o1, c1, f1⟩ := nil_append oo1 (rns_scalar q.O) (by rw [rns_len]; omega)
  have len1 := c1.1
  simp only [List.length_set] at len1
  have gr1 : k1[r]? = some A := c1.2 _ _ (by simp) gr0
  obtain ⟨b, cp, fx, rfl, hb, hcp⟩ : ∃ b cp fx, c = .slice b 23 0 q.O.length cp fx ∧ k1[b]? = some (.row 23 (rns q.O) true true) ∧ q.O.length ≤ cp := by
    rcases o1 with ⟨_, h⟩ | ⟨b, cp, fx, h1, h2, h3⟩
    · have := congrArg List.length h; rw [rns_len, List.length_nil] at this; omega
    · rw [rns_len] at h1 h3; exact ⟨b, cp, fx, h1, h2, h3⟩
  have hbl : k.length ≤ b := by have := f1 b (by simp [foot]); simpa using this
  have hbr : b ≠ r := by omega
  obtain ⟨A2, hA2⟩ : ∃ A : Blk, A = rrow { q with now := q.now + 1 } (.slice b 23 0 q.O.length cp fx) kv := ⟨_, rfl⟩
  have gr2 : (k1.set r A2)[r]? = some A2 := get_set_same gr1
  have gb2 : (k1.set r A2)[b]? = some (.row 23 (rns q.O) true true) := (List.getElem?_set_ne (Ne.symm hbr)).trans hb
  have c2 : Chg k (k1.set r A2) [r] := ((cc.trans c1 (by simp))).set (.inl (by simp))
  have s0 := a.oo.cells
  have s3 := a.kk.cells
  rw [call_eq Lp.fs3 Lp.ex3 (f := 20) (sf := sf20) rfl]
  have hr' := hr
  have gr1' := gr1
  have gp' := gp
  have e1' := e1
  subst hA
  unfold rrow at hr' gr1' gp' e1'
  unfold rn at gp'
  have hA2' := hA2
  unfold rrow at hA2'
  simp [sf20, yld_some, exec_reg, exec_dreg, exec_seq, exec_cond, exec_block, exec_scope, exec_exit, exec_ret, exec_skip, exec_loop, ops_nil, ops_cons, ops_cons_gd, stages_nil, stages_cons_n, stages_cons_h, recheck, wantsOp, AV.same, sames, evalOp_p, evalOp_r, evalOp_a, evalOp_call, evalOp_callV, evalOp_store, evalOp_append, evalOp_clear, evalOp_mapUpdate, evalOp_delete, pP_move, pP_pick, pP_build, pP_nil_ptr, pP_nil_func, pP_bin, pP_eq, pP_neg, pP_inv, pP_not, pP_convInt, pP_convStr, pP_fieldAddr, pP_field, pP_indexAddr, pP_indexStr, pP_sliceStr, pP_sliceSl, pP_lenStr, pP_lenNil, pP_lenSl, pP_min, pP_max, pP_extract, pP_mkfn, bV_add, bV_sub, bV_mul, bV_quo, bV_rem, bV_and, bV_or, bV_xor, bV_andNot, bV_eql, bV_neq, bV_lss, bV_leq, bV_gtr, bV_geq, bV_shl, bV_shr, bV_str, eV_bool, eV_nn, eV_np, eV_pn, eV_snn, eV_sns, eV_ssn, eV_mnn, eV_mnm, eV_mmn, eV_fnn, eV_fnf, eV_ffn, eV_agg, rP_load, rP_lenNil, rP_str0, rdEl_K, rdK_row, aP_alloc, aP_box, aP_buildSlice, aP_makeSlice, aP_makeMap, aP_toBytes, hP_store, storeK_some, st_K, stK_row, stE_some, cells_agg, cells_bool, scalar_bool, cells_int, scalar_int, cells_str, scalar_str, cells_nilptr, scalar_nilptr, cells_ptr, scalar_ptr, cells_nilslice, scalar_nilslice, cells_slice, scalar_slice, cells_nilmap, scalar_nilmap, cells_map, scalar_map, cells_nilfunc, scalar_nilfunc, cells_func, scalar_func, eqCells, eqLeaf, run_toL, toL_some, ev_toL, getD_toL, put_toL, keep_toL, asc, fput_same, fput_ne, fbase_nil, fbase_cons, fkeep_nil, fkeep_cons, fzero, fnone, List.map_cons, List.map_nil, ev_lit, put_none, resVals, resVal, resOf, partV, fillA, putCells, fillEls, strBin, minV, optNat, appendEls, elsOf, sliceSlV, sliceStrV, List.replicate, List.getElem?_append_left, List.getElem?_append_right, List.set_append_left, List.set_append_right, List.getElem?_set_self, List.getElem?_set_ne, hq_get0, hq_get, hq_get2, hq_get3, hp_get0, hp_get, hp_get2, hp_get3, hp_set0, hp_set, hp_set2, hp_set3, wr_0, wr_1, wr_2, wr_3, wr_4, wr_n1, hr', get_app hr', set_app hr', get_set_same hr', get_set_app hr', set_set_app hr', len_beq hr', beq_len hr', lo, hw, hz, hpos, ip', gp', hd, hq', e1', gr1', get_app gr1', set_app gr1', get_set_same gr1', get_set_app gr1', set_set_app gr1', len_beq gr1', beq_len gr1', s0.1, s0.2.1, s0.2.2, s3.1, s3.2.1, s3.2.2]
  rw [← hA2']
  repeat (first | apply yld_endFn | apply yld_seqK | apply yld_blockK | apply yld_regK | apply yld_opsK | apply yld_putK | apply yld_stgK | apply yld_chkK)
  refine yld_rounds (fun z e kk => ∃ f i els' vo, e = toL 94 f ∧ z = q.O.length - i ∧ i ≤ q.O.length ∧ f 0 = .ptr r 0 0 ∧ f 3 = vo ∧ f 4 = .int .i64 (i : Nat) ∧ kk[r]? = some A2 ∧ kk[b]? = some (.row 23 els' true true) ∧
    els' = rns ((q.O.take i).map (Sn.anew (q.now + 1)) ++ q.O.drop i) ∧ OwnE kk 25 vo (pks (q.again.take i)) ∧ (∀ z ∈ foot vo, k.length ≤ z ∧ z ≠ b) ∧ Chg k kk [r]) (q.O.length - 0) ?_ ?_
  · exact ⟨_, 0, _, .nilslice, rfl, rfl, Nat.zero_le _, rfl, rfl, rfl, gr2, gb2, by simp, .inl ⟨rfl, by simp [pks]⟩, by simp [foot], c2⟩
  · rintro J R hJ hR z e kk ⟨f, i, els', vo, rfl, rfl, hi, f0, f3, f4, hg', hb', hall, ho, hfo, hch⟩
    have hln : els'.length = q.O.length := by rw [hall, rns_len]; simp; omega
    have hkl := hch.1
    have hbk := (List.getElem?_eq_some_iff.1 hb').1
    by_cases hil : i < q.O.length
    · have hp : els'[i]? = some (rn q.O[i]) := by
        rw [hall]
        simp [rns, List.getElem?_append_right, hi, List.getElem?_drop, hil, Nat.min_eq_left hi]
      have hwi : IntKind.i64.wrap ((i : Int) + 1) = ((i + 1 : Nat) : Int) := wrap_i64 (by omega) (by omega)
      have hil1 : decide ((i : Int) < (q.O.length : Nat)) = true := dec_true (by omega)
      have hil2 : i < els'.length := by omega
      have hpx : els'[i] = rn q.O[i] := by
        have h0 := List.getElem?_eq_getElem hil2
        rw [hp] at h0; exact (Option.some.inj h0).symm
      have hb2 : (kk.set b (.row 23 (els'.set i (rn ((q.O[i]).anew (q.now + 1)))) true true))[b]? = some (.row 23 (els'.set i (rn ((q.O[i]).anew (q.now + 1)))) true true) := get_set_same hb'
      have hg2 : (kk.set b (.row 23 (els'.set i (rn ((q.O[i]).anew (q.now + 1)))) true true))[r]? = some A2 := (List.getElem?_set_ne hbr).trans hg'
      have hp2 : (els'.set i (rn ((q.O[i]).anew (q.now + 1))))[i]? = some (rn ((q.O[i]).anew (q.now + 1))) := by rw [List.getElem?_set_self hil2]
      have hch2 : Chg kk (kk.set b (.row 23 (els'.set i (rn ((q.O[i]).anew (q.now + 1)))) true true) ++ [.row 25 [Pk.av ⟨q.me, q.peer, (q.O[i]).seq, q.came, (q.O[i]).x⟩] true true]) [b] := ((Chg.refl _ _).set (.inl (by simp))).more
      have ho1 := ho.keep hch2 (by intro y hy; have := (hfo y hy).2; simpa using this)
      obtain ⟨vo', k2, e9, ho2, hch3, hf2⟩ := ownE_append ho1 (x := .slice kk.length 25 0 1 1 true) (X := [Pk.av ⟨q.me, q.peer, (q.O[i]).seq, q.came, (q.O[i]).x⟩]) (.inr <| .inr ⟨kk.length, 1, true, [Pk.av ⟨q.me, q.peer, (q.O[i]).seq, q.came, (q.O[i]).x⟩], true, true, rfl, by simp, rfl, by simp⟩) (by simp) (by intro e he; simp at he; subst he; intro z hz; simp only [Pk.av, List.mem_cons, List.not_mem_nil, or_false] at hz; rcases hz with rfl | rfl | rfl | rfl | rfl | rfl | rfl | rfl | rfl | rfl | rfl | rfl | rfl | rfl | rfl | rfl | rfl | rfl | rfl | rfl | rfl | rfl | rfl | rfl | rfl <;> rfl) (by simp [pks, Rs.again]; omega)
      have hg3 := hch3.2 r _ (fun h => by have := (hfo r h).1; omega) (get_app hg2)
      have hb3 := hch3.2 b _ (fun h => (hfo b h).2 rfl) (get_app hb2)
      have htk : pks (q.again.take (i + 1)) = pks (q.again.take i) ++ [Pk.av ⟨q.me, q.peer, (q.O[i]).seq, q.came, (q.O[i]).x⟩] := by
        have : i < q.again.length := by simp [Rs.again]; exact hil
        rw [take_succ_get this]
        simp [pks, Rs.again]
      have hall2 : els'.set i (rn ((q.O[i]).anew (q.now + 1))) = rns ((q.O.take (i + 1)).map (Sn.anew (q.now + 1)) ++ q.O.drop (i + 1)) := by
        have e1 : rns ((q.O.take i).map (Sn.anew (q.now + 1)) ++ q.O.drop i) = rns ((q.O.take i).map (Sn.anew (q.now + 1))) ++ rn (q.O[i]) :: rns (q.O.drop (i + 1)) := by rw [List.drop_eq_getElem_cons hil]; simp only [rns, List.map_append, List.map_cons]
        have e2 : (rns ((q.O.take i).map (Sn.anew (q.now + 1)))).length = i := by simp [rns, hi]
        have e3 := @set_mid _ (rns ((q.O.take i).map (Sn.anew (q.now + 1)))) (rns (q.O.drop (i + 1))) (rn (q.O[i])) (rn ((q.O[i]).anew (q.now + 1)))
        rw [e2] at e3
        rw [hall, e1, e3, take_succ_get hil]
        simp only [rns, List.map_append, List.map_cons, List.map_nil, List.append_assoc, List.cons_append, List.nil_append]
      have hcc : Chg k k2 [r] := (hch.trans hch2 (fun c hc => by simp at hc; subst hc; exact .inr hbl)).trans hch3 (fun y hy => .inr (hfo y hy).1)
      have hff : ∀ y ∈ foot vo', k.length ≤ y ∧ y ≠ b := fun y hy => by have := hf2 y hy; simp at this; omega
      subst hA2'
      simp only [rn, Sn.anew, Pk.av] at e9 hp hpx hb2 hg2 hp2 hb3
      simp [yld_some, exec_reg, exec_dreg, exec_seq, exec_cond, exec_block, exec_scope, exec_exit, exec_ret, exec_skip, exec_loop, ops_nil, ops_cons, ops_cons_gd, stages_nil, stages_cons_n, stages_cons_h, recheck, wantsOp, AV.same, sames, evalOp_p, evalOp_r, evalOp_a, evalOp_call, evalOp_callV, evalOp_store, evalOp_append, evalOp_clear, evalOp_mapUpdate, evalOp_delete, pP_move, pP_pick, pP_build, pP_nil_ptr, pP_nil_func, pP_bin, pP_eq, pP_neg, pP_inv, pP_not, pP_convInt, pP_convStr, pP_fieldAddr, pP_field, pP_indexAddr, pP_indexStr, pP_sliceStr, pP_sliceSl, pP_lenStr, pP_lenNil, pP_lenSl, pP_min, pP_max, pP_extract, pP_mkfn, bV_add, bV_sub, bV_mul, bV_quo, bV_rem, bV_and, bV_or, bV_xor, bV_andNot, bV_eql, bV_neq, bV_lss, bV_leq, bV_gtr, bV_geq, bV_shl, bV_shr, bV_str, eV_bool, eV_nn, eV_np, eV_pn, eV_snn, eV_sns, eV_ssn, eV_mnn, eV_mnm, eV_mmn, eV_fnn, eV_fnf, eV_ffn, eV_agg, rP_load, rP_lenNil, rP_str0, rdEl_K, rdK_row, aP_alloc, aP_box, aP_buildSlice, aP_makeSlice, aP_makeMap, aP_toBytes, hP_store, storeK_some, st_K, stK_row, stE_some, cells_agg, cells_bool, scalar_bool, cells_int, scalar_int, cells_str, scalar_str, cells_nilptr, scalar_nilptr, cells_ptr, scalar_ptr, cells_nilslice, scalar_nilslice, cells_slice, scalar_slice, cells_nilmap, scalar_nilmap, cells_map, scalar_map, cells_nilfunc, scalar_nilfunc, cells_func, scalar_func, eqCells, eqLeaf, run_toL, toL_some, ev_toL, getD_toL, put_toL, keep_toL, asc, fput_same, fput_ne, fbase_nil, fbase_cons, fkeep_nil, fkeep_cons, fzero, fnone, List.map_cons, List.map_nil, ev_lit, put_none, resVals, resVal, resOf, partV, fillA, putCells, fillEls, strBin, minV, optNat, appendEls, elsOf, sliceSlV, sliceStrV, List.replicate, List.getElem?_append_left, List.getElem?_append_right, List.set_append_left, List.set_append_right, List.getElem?_set_self, List.getElem?_set_ne, hq_get0, hq_get, hq_get2, hq_get3, hp_get0, hp_get, hp_get2, hp_get3, hp_set0, hp_set, hp_set2, hp_set3, wr_0, wr_1, wr_2, wr_3, wr_4, wr_n1, f0, f3, f4, hil, hil1, hil2, hg', get_app hg', set_app hg', get_set_same hg', get_set_app hg', set_set_app hg', len_beq hg', beq_len hg', hb', get_app hb', set_app hb', get_set_same hb', get_set_app hb', set_set_app hb', len_beq hb', beq_len hb', hb2, get_app hb2, set_app hb2, get_set_same hb2, get_set_app hb2, set_set_app hb2, len_beq hb2, beq_len hb2, hg2, get_app hg2, set_app hg2, get_set_same hg2, get_set_app hg2, set_set_app hg2, len_beq hg2, beq_len hg2, hp, hpx, hp2, e9, hwi]
      exact ⟨q.O.length - (i + 1), by omega, hJ _ _ _ ⟨_, i + 1, _, vo', rfl, rfl, hil, rfl, rfl, rfl, hg3, hb3, by simpa only [rn, Sn.anew] using hall2, by rw [htk]; exact ho2, hff, hcc⟩⟩
    · have hin : i = q.O.length := by omega
      subst hin
      have c1 : decide ((q.O.length : Int) < (q.O.length : Nat)) = false := dec_false (by omega)
      subst hA2'
      simp [yld_some, exec_reg, exec_dreg, exec_seq, exec_cond, exec_block, exec_scope, exec_exit, exec_ret, exec_skip, exec_loop, ops_nil, ops_cons, ops_cons_gd, stages_nil, stages_cons_n, stages_cons_h, recheck, wantsOp, AV.same, sames, evalOp_p, evalOp_r, evalOp_a, evalOp_call, evalOp_callV, evalOp_store, evalOp_append, evalOp_clear, evalOp_mapUpdate, evalOp_delete, pP_move, pP_pick, pP_build, pP_nil_ptr, pP_nil_func, pP_bin, pP_eq, pP_neg, pP_inv, pP_not, pP_convInt, pP_convStr, pP_fieldAddr, pP_field, pP_indexAddr, pP_indexStr, pP_sliceStr, pP_sliceSl, pP_lenStr, pP_lenNil, pP_lenSl, pP_min, pP_max, pP_extract, pP_mkfn, bV_add, bV_sub, bV_mul, bV_quo, bV_rem, bV_and, bV_or, bV_xor, bV_andNot, bV_eql, bV_neq, bV_lss, bV_leq, bV_gtr, bV_geq, bV_shl, bV_shr, bV_str, eV_bool, eV_nn, eV_np, eV_pn, eV_snn, eV_sns, eV_ssn, eV_mnn, eV_mnm, eV_mmn, eV_fnn, eV_fnf, eV_ffn, eV_agg, rP_load, rP_lenNil, rP_str0, rdEl_K, rdK_row, aP_alloc, aP_box, aP_buildSlice, aP_makeSlice, aP_makeMap, aP_toBytes, hP_store, storeK_some, st_K, stK_row, stE_some, cells_agg, cells_bool, scalar_bool, cells_int, scalar_int, cells_str, scalar_str, cells_nilptr, scalar_nilptr, cells_ptr, scalar_ptr, cells_nilslice, scalar_nilslice, cells_slice, scalar_slice, cells_nilmap, scalar_nilmap, cells_map, scalar_map, cells_nilfunc, scalar_nilfunc, cells_func, scalar_func, eqCells, eqLeaf, run_toL, toL_some, ev_toL, getD_toL, put_toL, keep_toL, asc, fput_same, fput_ne, fbase_nil, fbase_cons, fkeep_nil, fkeep_cons, fzero, fnone, List.map_cons, List.map_nil, ev_lit, put_none, resVals, resVal, resOf, partV, fillA, putCells, fillEls, strBin, minV, optNat, appendEls, elsOf, sliceSlV, sliceStrV, List.replicate, List.getElem?_append_left, List.getElem?_append_right, List.set_append_left, List.set_append_right, List.getElem?_set_self, List.getElem?_set_ne, hq_get0, hq_get, hq_get2, hq_get3, hp_get0, hp_get, hp_get2, hp_get3, hp_set0, hp_set, hp_set2, hp_set3, wr_0, wr_1, wr_2, wr_3, wr_4, wr_n1, f0, f3, f4, hg', get_app hg', set_app hg', get_set_same hg', get_set_app hg', set_set_app hg', len_beq hg', beq_len hg']
      refine hR _ ?_
      have hal : q.again.take q.O.length = q.again := List.take_of_length_le (by simp [Rs.again])
      rw [hal] at ho
      simp at hall
      have oc := ho.rds.cells
      simp [yld_some, exec_reg, exec_dreg, exec_seq, exec_cond, exec_block, exec_scope, exec_exit, exec_ret, exec_skip, exec_loop, ops_nil, ops_cons, ops_cons_gd, stages_nil, stages_cons_n, stages_cons_h, recheck, wantsOp, AV.same, sames, evalOp_p, evalOp_r, evalOp_a, evalOp_call, evalOp_callV, evalOp_store, evalOp_append, evalOp_clear, evalOp_mapUpdate, evalOp_delete, pP_move, pP_pick, pP_build, pP_nil_ptr, pP_nil_func, pP_bin, pP_eq, pP_neg, pP_inv, pP_not, pP_convInt, pP_convStr, pP_fieldAddr, pP_field, pP_indexAddr, pP_indexStr, pP_sliceStr, pP_sliceSl, pP_lenStr, pP_lenNil, pP_lenSl, pP_min, pP_max, pP_extract, pP_mkfn, bV_add, bV_sub, bV_mul, bV_quo, bV_rem, bV_and, bV_or, bV_xor, bV_andNot, bV_eql, bV_neq, bV_lss, bV_leq, bV_gtr, bV_geq, bV_shl, bV_shr, bV_str, eV_bool, eV_nn, eV_np, eV_pn, eV_snn, eV_sns, eV_ssn, eV_mnn, eV_mnm, eV_mmn, eV_fnn, eV_fnf, eV_ffn, eV_agg, rP_load, rP_lenNil, rP_str0, rdEl_K, rdK_row, aP_alloc, aP_box, aP_buildSlice, aP_makeSlice, aP_makeMap, aP_toBytes, hP_store, storeK_some, st_K, stK_row, stE_some, cells_agg, cells_bool, scalar_bool, cells_int, scalar_int, cells_str, scalar_str, cells_nilptr, scalar_nilptr, cells_ptr, scalar_ptr, cells_nilslice, scalar_nilslice, cells_slice, scalar_slice, cells_nilmap, scalar_nilmap, cells_map, scalar_map, cells_nilfunc, scalar_nilfunc, cells_func, scalar_func, eqCells, eqLeaf, run_toL, toL_some, ev_toL, getD_toL, put_toL, keep_toL, asc, fput_same, fput_ne, fbase_nil, fbase_cons, fkeep_nil, fkeep_cons, fzero, fnone, List.map_cons, List.map_nil, ev_lit, put_none, resVals, resVal, resOf, partV, fillA, putCells, fillEls, strBin, minV, optNat, appendEls, elsOf, sliceSlV, sliceStrV, List.replicate, List.getElem?_append_left, List.getElem?_append_right, List.set_append_left, List.set_append_right, List.getElem?_set_self, List.getElem?_set_ne, hq_get0, hq_get, hq_get2, hq_get3, hp_get0, hp_get, hp_get2, hp_get3, hp_set0, hp_set, hp_set2, hp_set3, wr_0, wr_1, wr_2, wr_3, wr_4, wr_n1]
      refine hQ _ ⟨_, _, .slice b 23 0 q.O.length cp fx, rfl, hch, ⟨hg', ?_, a.kk.keep0 hch (fun z hz => by simp only [List.mem_singleton]; rintro rfl; exact a.nk hz), fun hm => hbr (by have := foot0_sub hm; simp [foot] at this; exact this.symm), a.nk, a.cap⟩, ho, fun z hz => by simp [foot] at hz; subst hz; exact hbl, fun z hz => (hfo z hz).1⟩
      subst hall
      exact .inr (.inr ⟨b, cp, fx, _, true, true, by simp [rns], hb', List.take_length, Nat.le_refl _⟩)
end
end Go.Proofs.Ytmbkklobijflkaa.Lp
