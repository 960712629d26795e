/- The document's link: a letter is sent. -/
import Derived.Test.YtmbkklobijflkaaLpR
import Derived.Test.YtmbkklobijflkaaLpF
set_option maxRecDepth 100000
set_option linter.unusedVariables false
set_option linter.unusedSimpArgs false
namespace Go.Proofs.Ytmbkklobijflkaa.Lp
open Go Go.Eng F Lk Bk BkI

section
variable {k : H} {r : Nat} {ov kv : AV} {q : Rs}
theorem rns_snoc (O : List Sn) (s : Sn) : rns (O ++ [s]) = rns O ++ [rn s] := by simp [rns]
set_option maxHeartbeats 4000000 in
theorem rsend_call (a : RefAt k r ov kv q) (hl : q.O.length < 100000) (x : Lt) :
    Yld (call Lp.fs3 Lp.ex3 18 [.ptr r 0 0, .agg x.av] k) fun p => ∃ k' ov', p = (.agg (Pk.av ⟨q.me, q.peer, IntKind.i64.wrap (q.sent + 1), q.came, x⟩), k') ∧ Chg k k' [r] ∧
      RefAt k' r ov' kv { q with sent := IntKind.i64.wrap (q.sent + 1), O := q.O ++ [⟨IntKind.i64.wrap (q.sent + 1), x, q.now⟩] } ∧ ∀ c ∈ foot ov', k.length ≤ c := by
  refine yld_shut fun Q hQ => ?_
  have hr := a.row
  have hrl := (List.getElem?_eq_some_iff.1 hr).1
  obtain ⟨N, hN⟩ : ∃ N : Sn, N = ⟨IntKind.i64.wrap (q.sent + 1), x, q.now⟩ := ⟨_, rfl⟩
  obtain ⟨B, hB⟩ : ∃ B : H, B = [.row 21 [x.av] true true, .row 25 [Pk.zero.av] true true, .row 23 [rn N] true true] := ⟨_, rfl⟩
  have hBl : B.length = 3 := by rw [hB]; rfl
  obtain ⟨A, hA⟩ : ∃ A : Blk, A = rrow { q with sent := IntKind.i64.wrap (q.sent + 1) } ov kv := ⟨_, rfl⟩
  have c0 : Chg k (k.set r A ++ B) [r] := ((Chg.refl _ _).set (.inl (by simp))).more
  have oo0 := a.oo.keep0 c0 (fun c hc => by simp only [List.mem_singleton]; rintro rfl; exact a.no hc)
  obtain ⟨c, k1, e1, o1, c1, f1⟩ := nil_append oo0 (rns_scalar q.O) (by rw [rns_len]; omega)
  have f1' : ∀ z ∈ foot c, k.length + 3 ≤ z := fun z hz => by have := f1 z hz; simp [hBl] at this; exact this
  have len1 : k.length + 3 ≤ k1.length := by have := c1.1; simp [hBl] at this; exact this
  have gr1 : k1[r]? = some A := c1.2 _ _ (by simp) (get_app (get_set_same hr))
  have gx1 : k1[k.length]? = some (.row 21 [x.av] true true) := c1.2 _ _ (by simp) (by rw [hB, List.getElem?_append_right (by simp)]; simp)
  have gz1 : k1[k.length + 1]? = some (.row 25 [Pk.zero.av] true true) := c1.2 _ _ (by simp) (by rw [hB, List.getElem?_append_right (by simp)]; simp)
  have gn1 : k1[k.length + 2]? = some (.row 23 [rn N] true true) := c1.2 _ _ (by simp) (by rw [hB, List.getElem?_append_right (by simp)]; simp)
  obtain ⟨ov', k2, e2, o2, c2, f2⟩ := ownE_append o1 (x := .slice (k.length + 2) 23 0 1 1 true) (X := [rn N]) (.inr <| .inr ⟨k.length + 2, 1, true, [rn N], true, true, rfl, gn1, rfl, by simp⟩) (by simp) (by simpa using rn_scalar N) (by simp [rns_len]; omega)
  have nf : ∀ z, z < k.length + 3 → z ∉ foot c := fun z h hm => by have := f1' z hm; omega
  have gr2 := c2.2 _ _ (nf r (by omega)) gr1
  have gx2 := c2.2 _ _ (nf k.length (by omega)) gx1
  have gz2 := c2.2 _ _ (nf (k.length + 1) (by omega)) gz1
  have len2 := c2.1
  obtain ⟨A2, hA2⟩ : ∃ A : Blk, A = rrow { q with sent := IntKind.i64.wrap (q.sent + 1) } ov' kv := ⟨_, rfl⟩
  have gr3 : (k2.set r A2)[r]? = some A2 := get_set_same gr2
  have gx3 : (k2.set r A2)[k.length]? = some (.row 21 [x.av] true true) := (List.getElem?_set_ne (by omega)).trans gx2
  have gz3 : (k2.set r A2)[k.length + 1]? = some (.row 25 [Pk.zero.av] true true) := (List.getElem?_set_ne (by omega)).trans gz2
  obtain ⟨Z, hZ⟩ : ∃ Z : Blk, Z = .row 25 [Pk.av ⟨q.me, q.peer, IntKind.i64.wrap (q.sent + 1), q.came, x⟩] true true := ⟨_, rfl⟩
  have gz4 : ((k2.set r A2).set (k.length + 1) Z)[k.length + 1]? = some Z := get_set_same gz3
  have f2' : ∀ z ∈ foot ov', k.length + 3 ≤ z := fun z hz => by have := f2 z hz; omega
  have cf : Chg k2 ((k2.set r A2).set (k.length + 1) Z) [r, k.length + 1] := ((Chg.refl _ _).set (.inl (by simp))).set (.inl (by simp))
  have cc : Chg k ((k2.set r A2).set (k.length + 1) Z) [r] := (((c0.trans c1 (by simp)).trans c2 (fun z hz => .inr (by have := f1' z hz; omega))).set (.inl (by simp))).set (.inr (by omega))
  have o3 : OwnE ((k2.set r A2).set (k.length + 1) Z) 23 ov' (rns (q.O ++ [N])) := by
    rw [rns_snoc]
    exact o2.keep cf (fun z hz => by have := f2' z hz; simp; omega)
  have hq := hQ (.agg (Pk.av ⟨q.me, q.peer, IntKind.i64.wrap (q.sent + 1), q.came, x⟩), (k2.set r A2).set (k.length + 1) Z) ⟨_, ov', rfl, cc, ⟨?_, by rw [← hN]; exact o3.rds, a.kk.keep0 cc (fun z hz => by simp only [List.mem_singleton]; rintro rfl; exact a.nk hz), fun hm => by have := f2' r (foot0_sub hm); omega, a.nk, a.cap⟩, fun z hz => by have := f2' z hz; omega⟩
  · have s0 := a.oo.cells
    have s1 := o1.rds.cells
    have s2 := o2.rds.cells
    have s3 := a.kk.cells
    rw [call_eq Lp.fs3 Lp.ex3 (f := 18) (sf := sf18) rfl]
    subst hA hA2 hB hZ hN
    unfold rrow at *
    unfold rn at *
    unfold Pk.av at *
    unfold Pk.zero Lt.zero Lt.av at *
    simp [sf18, yld_some, exec_reg, exec_dreg, exec_seq, exec_cond, exec_block, exec_scope, exec_exit, exec_ret, exec_skip, exec_loop, ops_nil, ops_cons, ops_cons_gd, stages_nil, stages_cons_n, stages_cons_h, recheck, wantsOp, AV.same, sames, evalOp_p, evalOp_r, evalOp_a, evalOp_call, evalOp_callV, evalOp_store, evalOp_append, evalOp_clear, evalOp_mapUpdate, evalOp_delete, pP_move, pP_pick, pP_build, pP_nil_ptr, pP_nil_func, pP_bin, pP_eq, pP_neg, pP_inv, pP_not, pP_convInt, pP_convStr, pP_fieldAddr, pP_field, pP_indexAddr, pP_indexStr, pP_sliceStr, pP_sliceSl, pP_lenStr, pP_lenNil, pP_lenSl, pP_min, pP_max, pP_extract, pP_mkfn, bV_add, bV_sub, bV_mul, bV_quo, bV_rem, bV_and, bV_or, bV_xor, bV_andNot, bV_eql, bV_neq, bV_lss, bV_leq, bV_gtr, bV_geq, bV_shl, bV_shr, bV_str, eV_bool, eV_nn, eV_np, eV_pn, eV_snn, eV_sns, eV_ssn, eV_mnn, eV_mnm, eV_mmn, eV_fnn, eV_fnf, eV_ffn, eV_agg, rP_load, rP_lenNil, rP_str0, rdEl_K, rdK_row, aP_alloc, aP_box, aP_buildSlice, aP_makeSlice, aP_makeMap, aP_toBytes, hP_store, storeK_some, st_K, stK_row, stE_some, cells_agg, cells_bool, scalar_bool, cells_int, scalar_int, cells_str, scalar_str, cells_nilptr, scalar_nilptr, cells_ptr, scalar_ptr, cells_nilslice, scalar_nilslice, cells_slice, scalar_slice, cells_nilmap, scalar_nilmap, cells_map, scalar_map, cells_nilfunc, scalar_nilfunc, cells_func, scalar_func, eqCells, eqLeaf, run_toL, toL_some, ev_toL, getD_toL, put_toL, keep_toL, asc, fput_same, fput_ne, fbase_nil, fbase_cons, fkeep_nil, fkeep_cons, fzero, fnone, List.map_cons, List.map_nil, ev_lit, put_none, resVals, resVal, resOf, partV, fillA, putCells, fillEls, strBin, minV, optNat, appendEls, elsOf, sliceSlV, sliceStrV, List.replicate, List.getElem?_append_left, List.getElem?_append_right, List.set_append_left, List.set_append_right, List.getElem?_set_self, List.getElem?_set_ne, hq_get0, hq_get, hq_get2, hq_get3, hp_get0, hp_get, hp_get2, hp_get3, hp_set0, hp_set, hp_set2, hp_set3, wr_0, wr_1, wr_2, wr_3, wr_4, wr_n1, hr, get_app hr, set_app hr, get_set_same hr, get_set_app hr, set_set_app hr, len_beq hr, beq_len hr, e1, e2, gr1, get_app gr1, set_app gr1, get_set_same gr1, get_set_app gr1, set_set_app gr1, len_beq gr1, beq_len gr1, gx1, get_app gx1, set_app gx1, get_set_same gx1, get_set_app gx1, set_set_app gx1, len_beq gx1, beq_len gx1, gz1, get_app gz1, set_app gz1, get_set_same gz1, get_set_app gz1, set_set_app gz1, len_beq gz1, beq_len gz1, gr2, get_app gr2, set_app gr2, get_set_same gr2, get_set_app gr2, set_set_app gr2, len_beq gr2, beq_len gr2, gx2, get_app gx2, set_app gx2, get_set_same gx2, get_set_app gx2, set_set_app gx2, len_beq gx2, beq_len gx2, gz2, get_app gz2, set_app gz2, get_set_same gz2, get_set_app gz2, set_set_app gz2, len_beq gz2, beq_len gz2, gr3, get_app gr3, set_app gr3, get_set_same gr3, get_set_app gr3, set_set_app gr3, len_beq gr3, beq_len gr3, gx3, get_app gx3, set_app gx3, get_set_same gx3, get_set_app gx3, set_set_app gx3, len_beq gx3, beq_len gx3, gz3, get_app gz3, set_app gz3, get_set_same gz3, get_set_app gz3, set_set_app gz3, len_beq gz3, beq_len gz3, gz4, s0.1, s0.2.1, s0.2.2, s1.1, s1.2.1, s1.2.2, s2.1, s2.2.1, s2.2.2, s3.1, s3.2.1, s3.2.2]
    exact hq
  · rw [List.getElem?_set_ne (by omega), gr3, hA2]; rfl
end
end Go.Proofs.Ytmbkklobijflkaa.Lp
