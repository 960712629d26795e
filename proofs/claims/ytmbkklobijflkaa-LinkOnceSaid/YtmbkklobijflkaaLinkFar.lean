/- Link: LinkFar over the engine. -/
import Derived.Test.YtmbkklobijflkaaLinkAcks
set_option maxRecDepth 100000
set_option linter.unusedVariables false
set_option linter.unusedSimpArgs false
namespace Go.Proofs.Ytmbkklobijflkaa.Lk
open Go Go.Eng F

def xk (k : Nat) : Lt := { Lt.zero with kind := 1, id := k }
def pk (k : Nat) : Pk := ⟨2, 1, k, 0, xk k⟩
def st (c : Nat) (K : List (Int × Lt)) : Ls := ⟨1, 2, 0, 0, [], c, K⟩
theorem may_pk (c k : Nat) (K : List (Int × Lt)) : (st c K).may (pk k) = true := by simp [Ls.may, st, pk]
theorem beq_ne {a b : Int} (h : a ≠ b) : (a = b) = False := by simp [h]
theorem got_of {s : Ls} {p : Pk} (hmay : s.may p = true) (hs : p.seq ≠ 0) {K : List (Int × Lt)} (hK : s.keep p = K) {D : Int × List (Int × Lt) × List Lt} (hD : drain K.length s.came K = D) :
    s.got p = ({ s with waits := later p.ack s.waits, came := D.1, kept := D.2.1 }, D.2.2, ⟨s.me, s.peer, 0, D.1, Lt.zero⟩, true) := by
  subst hK; subst hD
  simp [Ls.got, hmay, hs]
theorem keep_in {s : Ls} {p : Pk} (h1 : findK p.seq s.kept = none) (h2 : s.came < p.seq) (h3 : p.seq - s.came ≤ 64) : s.keep p = s.kept ++ [(p.seq, p.x)] := by
  simp [Ls.keep, h1, h2, h3]
theorem keep_far {s : Ls} {p : Pk} (h3 : 64 < p.seq - s.came) : s.keep p = s.kept := by
  unfold Ls.keep
  rw [if_neg]
  simp; omega
theorem drain_some {n : Nat} {c : Int} {l : List (Int × Lt)} {i : Nat} {x : Lt} (h : findK (c + 1) l = some (i, x)) {D : Int × List (Int × Lt) × List Lt} (hD : drain n (c + 1) (l.eraseIdx i) = D) : drain (n + 1) c l = (D.1, D.2.1, x :: D.2.2) := by
  subst hD
  simp [drain, h]
theorem got_next (c : Nat) : (st c []).got (pk (c + 1)) = (st (c + 1) [], [xk (c + 1)], ⟨1, 2, 0, (c : Int) + 1, Lt.zero⟩, true) := by
  rw [got_of (s := st c []) (p := pk (c + 1)) (may_pk _ _ _) (show (pk (c + 1)).seq ≠ 0 by simp [pk]; omega) (keep_in (by simp [st, findK]) (by simp [st, pk]; omega) (by simp [st, pk]; omega))
    (drain_some (n := 0) (i := 0) (x := xk (c + 1)) (by simp [st, pk, findK]) rfl)]
  simp [st, pk, drain, later]
theorem got_far (A : Nat) (h2 : 64 < A) : (st 0 []).got (pk A) = (st 0 [], [], ⟨1, 2, 0, 0, Lt.zero⟩, true) := by
  rw [got_of (may_pk _ _ _) (show (pk A).seq ≠ 0 by simp [pk]; omega) (keep_far (by simp [st, pk]; omega)) (drain_none (by simp [st, findK]))]
  simp [st, pk, later]
theorem got_kept (A : Nat) (h1 : 1 < A) (h2 : A ≤ 64) : (st 0 []).got (pk A) = (st 0 [((A : Int), xk A)], [], ⟨1, 2, 0, 0, Lt.zero⟩, true) := by
  rw [got_of (may_pk _ _ _) (show (pk A).seq ≠ 0 by simp [pk]; omega) (keep_in (by simp [st, findK]) (by simp [st, pk]; omega) (by simp [st, pk]; omega)) (drain_none (by simp [st, pk, findK]; omega))]
  simp [st, pk, later]
theorem got_mid (A c : Nat) (h : c + 2 < A) : (st c [((A : Int), xk A)]).got (pk (c + 1)) = (st (c + 1) [((A : Int), xk A)], [xk (c + 1)], ⟨1, 2, 0, (c : Int) + 1, Lt.zero⟩, true) := by
  have h3 : ¬ (c : Int) + 1 = A := by omega
  have h4 : ¬ (c : Int) + 1 + 1 = A := by omega
  rw [got_of (s := st c [((A : Int), xk A)]) (p := pk (c + 1)) (may_pk _ _ _) (show (pk (c + 1)).seq ≠ 0 by simp [pk]; omega) (keep_in (by simp [st, pk, findK, h3]) (by simp [st, pk]; omega) (by simp [st, pk]; omega))
    (drain_some (n := 1) (i := 1) (x := xk (c + 1)) (by simp [st, pk, findK, h3]) (drain_none (by simp [st, pk, findK, h4])))]
  simp [st, pk, later]
theorem got_last (A c : Nat) (h : c + 2 = A) : (st c [((A : Int), xk A)]).got (pk (c + 1)) = (st (c + 2) [], [xk (c + 1), xk A], ⟨1, 2, 0, (c : Int) + 2, Lt.zero⟩, true) := by
  have h3 : ¬ (c : Int) + 1 = A := by omega
  have h4 : (c : Int) + 1 + 1 = A := by omega
  rw [got_of (s := st c [((A : Int), xk A)]) (p := pk (c + 1)) (may_pk _ _ _) (show (pk (c + 1)).seq ≠ 0 by simp [pk]; omega) (keep_in (by simp [st, pk, findK, h3]) (by simp [st, pk]; omega) (by simp [st, pk]; omega))
    (drain_some (n := 1) (i := 1) (x := xk (c + 1)) (by simp [st, pk, findK, h3]) (drain_some (n := 0) (i := 0) (x := xk A) (by simp [st, pk, findK, h4]) rfl))]
  simp [st, pk, later, drain]
  omega

/-- A packet comes, and what comes of it is known. -/
theorem got_known {k : H} {g m : Nat} {v : AV} {s : Ls} (a : LinkAt k g m v s) (hlen : s.waits.length < 4294967296) (hkl : s.kept.length < 4294967295) (hc : 0 ≤ s.came ∧ s.came < 4611686018427387904) (p : Pk) (hp : p.seq ≤ 9223372036854775807)
    {s2 : Ls} {o : List Lt} {q : Pk} {ok : Bool} (hgot : s.got p = (s2, o, q, ok)) :
    Yld (call fs2 ex2 12 [.ptr g 0 0, .agg p.av] k) fun r => ∃ vo v', r.1 = .tuple [vo, .agg q.av, .bool ok] ∧ LinkAt r.2 g m v' s2 ∧ Own r.2 21 vo (lts o) ∧ Chg k r.2 (g :: m :: foot v) ∧ (∀ c ∈ foot v', c ∈ foot v) ∧ ∀ c ∈ foot vo, k.length ≤ c := by
  refine (got_call a hlen hkl hc p hp).mono ?_
  rintro r ⟨vo, v', h1, h2, h3, h4, h5, h6⟩
  rw [hgot] at h1 h2 h3
  exact ⟨vo, v', h1, h2, h3, h4, h5, h6⟩
theorem lts_len (o : List Lt) : (lts o).length = o.length := by simp [lts]

def want (A : Nat) : Nat := if 64 < A then A - 1 else A
structure Fr (A k c tl : Nat) (K : List (Int × Lt)) : Prop where
  lt : k < A → c + 1 = k ∧ tl + 1 = k ∧ K = (if A ≤ 64 then [((A : Int), xk A)] else [])
  eq : k = A → c = want A ∧ tl = want A
  kl : K.length ≤ 1
theorem Fr.step {A k c tl : Nat} {K : List (Int × Lt)} (f : Fr A k c tl K) (hk : k < A) : ∃ c' K' o, (st c K).got (pk k) = (st c' K', o, ⟨1, 2, 0, c', Lt.zero⟩, true) ∧ o.length ≤ 2 ∧ Fr A (k + 1) c' (tl + o.length) K' := by
  obtain ⟨rfl, ht, hK⟩ := f.lt hk
  by_cases h64 : A ≤ 64
  · rw [if_pos h64] at hK
    subst hK
    by_cases hl : c + 2 = A
    · refine ⟨c + 2, [], _, got_last A c hl, by simp, fun h => by omega, fun _ => ?_, by simp⟩
      unfold want; rw [if_neg (by omega)]; simp; omega
    · refine ⟨c + 1, _, _, got_mid A c (by omega), by simp, fun h => ⟨rfl, by simp; omega, by rw [if_pos h64]⟩, fun h => by omega, by simp⟩
  · rw [if_neg h64] at hK
    subst hK
    refine ⟨c + 1, [], _, got_next c, by simp, fun h => ⟨rfl, by simp; omega, by rw [if_neg h64]⟩, fun h => ?_, by simp⟩
    unfold want; rw [if_pos (by omega)]; simp; omega
set_option maxHeartbeats 8000000 in
theorem loop_far {lv : List Nat} {body : SCode} (hb : loopsIn sf3.body = [(lv, body)]) {g m A : Nat} (hA : 1 ≤ A ∧ A ≤ 100) {c tl : Nat} {K : List (Int × Lt)} {v : AV} {kk : H} {f : Nat → AV} {R : (Ex × Env) × H → Prop}
    (a : LinkAt kk g m v (st c K)) (f0 : f 0 = .int .i64 A) (f3 : f 3 = .ptr g 0 0) (f7 : f 7 = .int .i64 (tl : Nat)) (f8 : f 8 = .int .i64 1) (fr : Fr A 1 c tl K) (hct : c ≤ 200 ∧ tl ≤ 200)
    (hR : ∀ (f' : Nat → AV) (kk' : H) (v' : AV) (K' : List (Int × Lt)), f' 0 = .int .i64 A → f' 3 = .ptr g 0 0 → f' 7 = .int .i64 (want A : Nat) → LinkAt kk' g m v' (st (want A) K') → R ((.exit 0, toL 100 f'), kk')) :
    Yld (itw (fun env => exec (call fs2 ex2) itw body (keepFrom lv 0 env)) (toL 100 f) kk) R := by
  simp [sf3, loopsIn] at hb
  obtain ⟨rfl, rfl⟩ := hb
  refine yld_rounds (fun z e k => ∃ f i c tl K v, e = toL 100 f ∧ z = A - i ∧ i ≤ A ∧ f 0 = .int .i64 A ∧ f 3 = .ptr g 0 0 ∧ f 7 = .int .i64 (tl : Nat) ∧ f 8 = .int .i64 (i : Nat) ∧ LinkAt k g m v (st c K) ∧ Fr A i c tl K ∧ c ≤ 200 + 2 * i ∧ tl ≤ 200 + 2 * i) (A - 1) ?_ ?_
  · exact ⟨_, 1, c, tl, K, v, rfl, rfl, hA.1, f0, f3, f7, f8, a, fr, by omega, by omega⟩
  · rintro J R' hJ hR' z e k ⟨f, i, c, tl, K, v, rfl, rfl, hi, f0, f3, f7, f8, a, fr, hc, ht⟩
    by_cases hil : i < A
    · obtain ⟨c', K', o, hgot, hol, fr'⟩ := fr.step hil
      have hw : IntKind.i64.wrap ((i : Int) + 1) = ((i + 1 : Nat) : Int) := wrap_i64 (by omega) (by omega)
      have hwt : IntKind.i64.wrap ((tl : Int) + o.length) = ((tl + o.length : Nat) : Int) := by rw [wrap_i64 (by omega) (by omega)]; omega
      have c1 : decide (i < A) = true := dec_true hil
      obtain ⟨⟨w1, k1⟩, e1, vo1, v1, rfl, al1, ol1, ch1, _, _⟩ := got_known a (by simp [st]) (by have := fr.kl; simp only [st]; omega) (by simp only [st]; omega) (pk i) (by simp [pk]; omega) hgot
      have hlo := own_len ol1
      rw [lts_len] at hlo
      have al1' := al1.keep (Chg.app k1 [.row 25 [Pk.av ⟨1, 2, 0, c', Lt.zero⟩] true true] []) (by simp) (by simp) (by simp)
      have hcc : c' ≤ 200 + 2 * (i + 1) := by
        rcases Nat.lt_or_ge (i + 1) A with h | h
        · have := (fr'.lt h).1; omega
        · have := (fr'.eq (by omega)).1; unfold want at this; split at this <;> omega
      simp only [Pk.av, pk, xk, Lt.zero] at e1 al1'
      simp [yld_some, exec_reg, exec_dreg, exec_seq, exec_cond, exec_block, exec_scope, exec_exit, exec_ret, exec_skip, exec_loop, ops_nil, ops_cons, ops_cons_gd, stages_nil, stages_cons_n, stages_cons_h, recheck, wantsOp, AV.same, sames, evalOp_p, evalOp_r, evalOp_a, evalOp_call, evalOp_callV, evalOp_store, evalOp_append, evalOp_clear, evalOp_mapUpdate, evalOp_delete, pP_move, pP_pick, pP_build, pP_nil_ptr, pP_nil_func, pP_bin, pP_eq, pP_neg, pP_inv, pP_not, pP_convInt, pP_convStr, pP_fieldAddr, pP_field, pP_indexAddr, pP_indexStr, pP_sliceStr, pP_sliceSl, pP_lenStr, pP_lenNil, pP_lenSl, pP_min, pP_max, pP_extract, pP_mkfn, bV_add, bV_sub, bV_mul, bV_quo, bV_rem, bV_and, bV_or, bV_xor, bV_andNot, bV_eql, bV_neq, bV_lss, bV_leq, bV_gtr, bV_geq, bV_shl, bV_shr, bV_str, eV_bool, eV_nn, eV_np, eV_pn, eV_snn, eV_sns, eV_ssn, eV_mnn, eV_mnm, eV_mmn, eV_fnn, eV_fnf, eV_ffn, eV_agg, rP_load, rP_lenNil, rP_str0, rdEl_K, rdK_row, aP_alloc, aP_box, aP_buildSlice, aP_makeSlice, aP_makeMap, aP_toBytes, hP_store, storeK_some, st_K, stK_row, stE_some, cells_agg, cells_bool, scalar_bool, cells_int, scalar_int, cells_str, scalar_str, cells_nilptr, scalar_nilptr, cells_ptr, scalar_ptr, cells_nilslice, scalar_nilslice, cells_slice, scalar_slice, cells_nilmap, scalar_nilmap, cells_map, scalar_map, cells_nilfunc, scalar_nilfunc, cells_func, scalar_func, eqCells, eqLeaf, run_toL, toL_some, ev_toL, getD_toL, put_toL, keep_toL, asc, fput_same, fput_ne, fbase_nil, fbase_cons, fkeep_nil, fkeep_cons, fzero, fnone, List.map_cons, List.map_nil, ev_lit, put_none, resVals, resVal, resOf, partV, fillA, putCells, fillEls, strBin, minV, optNat, appendEls, elsOf, sliceSlV, sliceStrV, List.replicate, List.getElem?_append_left, List.getElem?_append_right, List.set_append_left, List.set_append_right, List.getElem?_set_self, List.getElem?_set_ne, hq_get0, hq_get, hq_get2, hq_get3, hp_get0, hp_get, hp_get2, hp_get3, hp_set0, hp_set, hp_set2, hp_set3, wr_0, wr_1, wr_2, wr_3, wr_4, wr_n1, f0, f3, f7, f8, hil, c1, e1, hlo, ol1.cells, ol1.scalar, hw, hwt]
      exact ⟨A - (i + 1), by omega, hJ _ _ _ ⟨_, i + 1, c', _, K', v1, rfl, rfl, by omega, rfl, rfl, rfl, rfl, al1', fr', hcc, by omega⟩⟩
    · have hiA : i = A := by omega
      have c1 : decide (i < A) = false := dec_false hil
      obtain ⟨h1, h2⟩ := fr.eq hiA
      rw [h1] at a
      rw [h2] at f7
      simp [yld_some, exec_reg, exec_dreg, exec_seq, exec_cond, exec_block, exec_scope, exec_exit, exec_ret, exec_skip, exec_loop, ops_nil, ops_cons, ops_cons_gd, stages_nil, stages_cons_n, stages_cons_h, recheck, wantsOp, AV.same, sames, evalOp_p, evalOp_r, evalOp_a, evalOp_call, evalOp_callV, evalOp_store, evalOp_append, evalOp_clear, evalOp_mapUpdate, evalOp_delete, pP_move, pP_pick, pP_build, pP_nil_ptr, pP_nil_func, pP_bin, pP_eq, pP_neg, pP_inv, pP_not, pP_convInt, pP_convStr, pP_fieldAddr, pP_field, pP_indexAddr, pP_indexStr, pP_sliceStr, pP_sliceSl, pP_lenStr, pP_lenNil, pP_lenSl, pP_min, pP_max, pP_extract, pP_mkfn, bV_add, bV_sub, bV_mul, bV_quo, bV_rem, bV_and, bV_or, bV_xor, bV_andNot, bV_eql, bV_neq, bV_lss, bV_leq, bV_gtr, bV_geq, bV_shl, bV_shr, bV_str, eV_bool, eV_nn, eV_np, eV_pn, eV_snn, eV_sns, eV_ssn, eV_mnn, eV_mnm, eV_mmn, eV_fnn, eV_fnf, eV_ffn, eV_agg, rP_load, rP_lenNil, rP_str0, rdEl_K, rdK_row, aP_alloc, aP_box, aP_buildSlice, aP_makeSlice, aP_makeMap, aP_toBytes, hP_store, storeK_some, st_K, stK_row, stE_some, cells_agg, cells_bool, scalar_bool, cells_int, scalar_int, cells_str, scalar_str, cells_nilptr, scalar_nilptr, cells_ptr, scalar_ptr, cells_nilslice, scalar_nilslice, cells_slice, scalar_slice, cells_nilmap, scalar_nilmap, cells_map, scalar_map, cells_nilfunc, scalar_nilfunc, cells_func, scalar_func, eqCells, eqLeaf, run_toL, toL_some, ev_toL, getD_toL, put_toL, keep_toL, asc, fput_same, fput_ne, fbase_nil, fbase_cons, fkeep_nil, fkeep_cons, fzero, fnone, List.map_cons, List.map_nil, ev_lit, put_none, resVals, resVal, resOf, partV, fillA, putCells, fillEls, strBin, minV, optNat, appendEls, elsOf, sliceSlV, sliceStrV, List.replicate, List.getElem?_append_left, List.getElem?_append_right, List.set_append_left, List.set_append_right, List.getElem?_set_self, List.getElem?_set_ne, hq_get0, hq_get, hq_get2, hq_get3, hp_get0, hp_get, hp_get2, hp_get3, hp_set0, hp_set, hp_set2, hp_set3, wr_0, wr_1, wr_2, wr_3, wr_4, wr_n1, f0, f3, f7, f8, hil, c1]
      exact hR' _ (hR _ _ v K rfl rfl rfl a)

set_option maxHeartbeats 8000000 in
theorem far_call (a0 : Int) (h : H) : Yld (call fs2 ex2 3 [.int .i64 a0] h) fun r => r.1 = .bool true := by
  refine yld_shut fun Q hQ => ?_
  rw [call_eq fs2 ex2 (f := 3) (sf := sf3) rfl]
  have hQ' : ∀ k, Q (.bool true, k) := fun k => hQ _ rfl
  by_cases h1 : a0 < 1
  · simp [sf3, yld_some, exec_reg, exec_dreg, exec_seq, exec_cond, exec_block, exec_scope, exec_exit, exec_ret, exec_skip, exec_loop, ops_nil, ops_cons, ops_cons_gd, stages_nil, stages_cons_n, stages_cons_h, recheck, wantsOp, AV.same, sames, evalOp_p, evalOp_r, evalOp_a, evalOp_call, evalOp_callV, evalOp_store, evalOp_append, evalOp_clear, evalOp_mapUpdate, evalOp_delete, pP_move, pP_pick, pP_build, pP_nil_ptr, pP_nil_func, pP_bin, pP_eq, pP_neg, pP_inv, pP_not, pP_convInt, pP_convStr, pP_fieldAddr, pP_field, pP_indexAddr, pP_indexStr, pP_sliceStr, pP_sliceSl, pP_lenStr, pP_lenNil, pP_lenSl, pP_min, pP_max, pP_extract, pP_mkfn, bV_add, bV_sub, bV_mul, bV_quo, bV_rem, bV_and, bV_or, bV_xor, bV_andNot, bV_eql, bV_neq, bV_lss, bV_leq, bV_gtr, bV_geq, bV_shl, bV_shr, bV_str, eV_bool, eV_nn, eV_np, eV_pn, eV_snn, eV_sns, eV_ssn, eV_mnn, eV_mnm, eV_mmn, eV_fnn, eV_fnf, eV_ffn, eV_agg, rP_load, rP_lenNil, rP_str0, rdEl_K, rdK_row, aP_alloc, aP_box, aP_buildSlice, aP_makeSlice, aP_makeMap, aP_toBytes, hP_store, storeK_some, st_K, stK_row, stE_some, cells_agg, cells_bool, scalar_bool, cells_int, scalar_int, cells_str, scalar_str, cells_nilptr, scalar_nilptr, cells_ptr, scalar_ptr, cells_nilslice, scalar_nilslice, cells_slice, scalar_slice, cells_nilmap, scalar_nilmap, cells_map, scalar_map, cells_nilfunc, scalar_nilfunc, cells_func, scalar_func, eqCells, eqLeaf, run_toL, toL_some, ev_toL, getD_toL, put_toL, keep_toL, asc, fput_same, fput_ne, fbase_nil, fbase_cons, fkeep_nil, fkeep_cons, fzero, fnone, List.map_cons, List.map_nil, ev_lit, put_none, resVals, resVal, resOf, partV, fillA, putCells, fillEls, strBin, minV, optNat, appendEls, elsOf, sliceSlV, sliceStrV, List.replicate, List.getElem?_append_left, List.getElem?_append_right, List.set_append_left, List.set_append_right, List.getElem?_set_self, List.getElem?_set_ne, hq_get0, hq_get, hq_get2, hq_get3, hp_get0, hp_get, hp_get2, hp_get3, hp_set0, hp_set, hp_set2, hp_set3, wr_0, wr_1, wr_2, wr_3, wr_4, wr_n1, e2_10, ex2, h1, hQ']
  have d1 : decide (a0 < 1) = false := dec_false h1
  by_cases h2 : 100 < a0
  · simp [sf3, yld_some, exec_reg, exec_dreg, exec_seq, exec_cond, exec_block, exec_scope, exec_exit, exec_ret, exec_skip, exec_loop, ops_nil, ops_cons, ops_cons_gd, stages_nil, stages_cons_n, stages_cons_h, recheck, wantsOp, AV.same, sames, evalOp_p, evalOp_r, evalOp_a, evalOp_call, evalOp_callV, evalOp_store, evalOp_append, evalOp_clear, evalOp_mapUpdate, evalOp_delete, pP_move, pP_pick, pP_build, pP_nil_ptr, pP_nil_func, pP_bin, pP_eq, pP_neg, pP_inv, pP_not, pP_convInt, pP_convStr, pP_fieldAddr, pP_field, pP_indexAddr, pP_indexStr, pP_sliceStr, pP_sliceSl, pP_lenStr, pP_lenNil, pP_lenSl, pP_min, pP_max, pP_extract, pP_mkfn, bV_add, bV_sub, bV_mul, bV_quo, bV_rem, bV_and, bV_or, bV_xor, bV_andNot, bV_eql, bV_neq, bV_lss, bV_leq, bV_gtr, bV_geq, bV_shl, bV_shr, bV_str, eV_bool, eV_nn, eV_np, eV_pn, eV_snn, eV_sns, eV_ssn, eV_mnn, eV_mnm, eV_mmn, eV_fnn, eV_fnf, eV_ffn, eV_agg, rP_load, rP_lenNil, rP_str0, rdEl_K, rdK_row, aP_alloc, aP_box, aP_buildSlice, aP_makeSlice, aP_makeMap, aP_toBytes, hP_store, storeK_some, st_K, stK_row, stE_some, cells_agg, cells_bool, scalar_bool, cells_int, scalar_int, cells_str, scalar_str, cells_nilptr, scalar_nilptr, cells_ptr, scalar_ptr, cells_nilslice, scalar_nilslice, cells_slice, scalar_slice, cells_nilmap, scalar_nilmap, cells_map, scalar_map, cells_nilfunc, scalar_nilfunc, cells_func, scalar_func, eqCells, eqLeaf, run_toL, toL_some, ev_toL, getD_toL, put_toL, keep_toL, asc, fput_same, fput_ne, fbase_nil, fbase_cons, fkeep_nil, fkeep_cons, fzero, fnone, List.map_cons, List.map_nil, ev_lit, put_none, resVals, resVal, resOf, partV, fillA, putCells, fillEls, strBin, minV, optNat, appendEls, elsOf, sliceSlV, sliceStrV, List.replicate, List.getElem?_append_left, List.getElem?_append_right, List.set_append_left, List.set_append_right, List.getElem?_set_self, List.getElem?_set_ne, hq_get0, hq_get, hq_get2, hq_get3, hp_get0, hp_get, hp_get2, hp_get3, hp_set0, hp_set, hp_set2, hp_set3, wr_0, wr_1, wr_2, wr_3, wr_4, wr_n1, e2_10, ex2, d1, h2, hQ']
  have d2 : decide (100 < a0) = false := dec_false h2
  obtain ⟨A, rfl⟩ : ∃ n : Nat, a0 = n := ⟨a0.toNat, by omega⟩
  -- the first packet
  obtain ⟨c, K, o, hgot, hfirst, hcK⟩ : ∃ (c : Nat) (K : List (Int × Lt)) (o : List Lt), (st 0 []).got (pk A) = (st c K, o, ⟨1, 2, 0, c, Lt.zero⟩, true) ∧ ((A = 1 ∧ c = 1 ∧ K = [] ∧ o.length = 1) ∨ (1 < A ∧ A ≤ 64 ∧ c = 0 ∧ K = [((A : Int), xk A)] ∧ o.length = 0) ∨ (64 < A ∧ c = 0 ∧ K = [] ∧ o.length = 0)) ∧ K.length ≤ 1 := by
    by_cases g1 : A = 1
    · subst g1
      exact ⟨1, [], _, got_next 0, .inl ⟨rfl, rfl, rfl, rfl⟩, by simp⟩
    · by_cases g2 : A ≤ 64
      · exact ⟨0, _, _, got_kept A (by omega) g2, .inr (.inl ⟨by omega, g2, rfl, rfl, rfl⟩), by simp⟩
      · exact ⟨0, [], _, got_far A (by omega), .inr (.inr ⟨by omega, rfl, rfl, rfl⟩), by simp⟩
  have al0 : LinkAt (h ++ [.map [], .row 7 [[.int .i64 1, .int .i64 2, .int .i64 0, .int .i64 0, .nilslice, .int .i64 0, .map h.length]] true true]) (h.length + 1) h.length .nilslice (st 0 []) := new_at 1 2 h
  obtain ⟨⟨w1, k1⟩, e1, vo1, v1, rfl, al1, ol1, ch1, _, _⟩ := got_known al0 (by simp [st]) (by simp [st]) (by simp [st]) (pk A) (by simp [pk]; omega) hgot
  have al1' := al1.keep (Chg.app k1 [.row 25 [Pk.av ⟨1, 2, 0, c, Lt.zero⟩] true true] []) (by simp) (by simp) (by simp)
  have hlo := own_len ol1
  rw [lts_len] at hlo
  have e2 := came_call al1'
  have e3 := rest_call al1'
  obtain ⟨B, R, G, bo, bA, hR, b64, b64', hx⟩ : ∃ B R G : Bool, ((o.length : Int) == 1) = B ∧ ((A : Int) == 1) = B ∧ (decide ((st c K).waits.length = 0) && decide ((st c K).kept.length = 0)) = R ∧ decide (64 < (A : Int)) = G ∧ decide (64 < A) = G ∧ R = (B || G) := by
    rcases hfirst with ⟨rfl, rfl, rfl, ho⟩ | ⟨g1, g2, rfl, rfl, ho⟩ | ⟨g2, rfl, rfl, ho⟩
    · exact ⟨true, true, false, by rw [ho]; rfl, rfl, rfl, rfl, rfl, rfl⟩
    · exact ⟨false, false, false, by rw [ho]; rfl, beq_false (by omega), rfl, dec_false (by omega), dec_false (by omega), rfl⟩
    · exact ⟨false, true, true, by rw [ho]; rfl, beq_false (by omega), rfl, dec_true (by omega), dec_true (by omega), rfl⟩
  rw [hR, hx] at e3
  simp only [Pk.av, pk, xk, Lt.zero, st] at e1 e2 e3
  have hinv : LinkAt (k1 ++ [.row 25 [Pk.av ⟨1, 2, 0, c, Lt.zero⟩] true true]) (h.length + 1) h.length v1 (st c K) := al1'
  simp only [Pk.av, Lt.zero] at hinv
  have hfr : Fr A 1 c o.length K ∧ c ≤ 200 ∧ o.length ≤ 200 := by
    rcases hfirst with ⟨rfl, rfl, rfl, ho⟩ | ⟨g1, g2, rfl, rfl, ho⟩ | ⟨g2, rfl, rfl, ho⟩
    · exact ⟨⟨fun h => by omega, fun _ => by simp [want, ho], by simp⟩, by omega, by omega⟩
    · exact ⟨⟨fun h => ⟨rfl, by omega, by rw [if_pos g2]⟩, fun h => by omega, by simp⟩, by omega, by omega⟩
    · exact ⟨⟨fun h => ⟨rfl, by omega, by rw [if_neg (by omega)]⟩, fun h => by omega, by simp⟩, by omega, by omega⟩
  obtain ⟨hfr, hc2, ho2⟩ := hfr
  cases B <;> cases G <;> simp [sf3, yld_some, exec_reg, exec_dreg, exec_seq, exec_cond, exec_block, exec_scope, exec_exit, exec_ret, exec_skip, exec_loop, ops_nil, ops_cons, ops_cons_gd, stages_nil, stages_cons_n, stages_cons_h, recheck, wantsOp, AV.same, sames, evalOp_p, evalOp_r, evalOp_a, evalOp_call, evalOp_callV, evalOp_store, evalOp_append, evalOp_clear, evalOp_mapUpdate, evalOp_delete, pP_move, pP_pick, pP_build, pP_nil_ptr, pP_nil_func, pP_bin, pP_eq, pP_neg, pP_inv, pP_not, pP_convInt, pP_convStr, pP_fieldAddr, pP_field, pP_indexAddr, pP_indexStr, pP_sliceStr, pP_sliceSl, pP_lenStr, pP_lenNil, pP_lenSl, pP_min, pP_max, pP_extract, pP_mkfn, bV_add, bV_sub, bV_mul, bV_quo, bV_rem, bV_and, bV_or, bV_xor, bV_andNot, bV_eql, bV_neq, bV_lss, bV_leq, bV_gtr, bV_geq, bV_shl, bV_shr, bV_str, eV_bool, eV_nn, eV_np, eV_pn, eV_snn, eV_sns, eV_ssn, eV_mnn, eV_mnm, eV_mmn, eV_fnn, eV_fnf, eV_ffn, eV_agg, rP_load, rP_lenNil, rP_str0, rdEl_K, rdK_row, aP_alloc, aP_box, aP_buildSlice, aP_makeSlice, aP_makeMap, aP_toBytes, hP_store, storeK_some, st_K, stK_row, stE_some, cells_agg, cells_bool, scalar_bool, cells_int, scalar_int, cells_str, scalar_str, cells_nilptr, scalar_nilptr, cells_ptr, scalar_ptr, cells_nilslice, scalar_nilslice, cells_slice, scalar_slice, cells_nilmap, scalar_nilmap, cells_map, scalar_map, cells_nilfunc, scalar_nilfunc, cells_func, scalar_func, eqCells, eqLeaf, run_toL, toL_some, ev_toL, getD_toL, put_toL, keep_toL, asc, fput_same, fput_ne, fbase_nil, fbase_cons, fkeep_nil, fkeep_cons, fzero, fnone, List.map_cons, List.map_nil, ev_lit, put_none, resVals, resVal, resOf, partV, fillA, putCells, fillEls, strBin, minV, optNat, appendEls, elsOf, sliceSlV, sliceStrV, List.replicate, List.getElem?_append_left, List.getElem?_append_right, List.set_append_left, List.set_append_right, List.getElem?_set_self, List.getElem?_set_ne, hq_get0, hq_get, hq_get2, hq_get3, hp_get0, hp_get, hp_get2, hp_get3, hp_set0, hp_set, hp_set2, hp_set3, wr_0, wr_1, wr_2, wr_3, wr_4, wr_n1, e2_10, ex2, d1, d2, new_call, e1, e2, e3, hlo, ol1.cells, ol1.scalar, bo, bA, b64, b64']
  all_goals
    repeat (first | apply yld_endFn | apply yld_seqK | apply yld_blockK | apply yld_regK | apply yld_opsK | apply yld_putK | apply yld_stgK | apply yld_chkK)
    refine loop_far (by simp [sf3, loopsIn]) (A := A) (c := c) (tl := o.length) (K := K) (by omega) hinv rfl rfl rfl rfl hfr (by omega) ?_
    intro f' kk' v' K' f0' f3' f7' aL
    have e4 := came_call aL
    simp only [st] at e4
    have hwA : IntKind.i64.wrap ((A : Int) - 1) = A - 1 := wrap_i64 (by omega) (by omega)
    have hwt : ((want A : Nat) : Int) = if 64 < (A : Int) then (A : Int) - 1 else A := by unfold want; split <;> split <;> omega
    first
    | (have h64 : (64 : Int) < A := by simpa using b64
       rw [if_pos h64] at hwt
       simp [yld_some, exec_reg, exec_dreg, exec_seq, exec_cond, exec_block, exec_scope, exec_exit, exec_ret, exec_skip, exec_loop, ops_nil, ops_cons, ops_cons_gd, stages_nil, stages_cons_n, stages_cons_h, recheck, wantsOp, AV.same, sames, evalOp_p, evalOp_r, evalOp_a, evalOp_call, evalOp_callV, evalOp_store, evalOp_append, evalOp_clear, evalOp_mapUpdate, evalOp_delete, pP_move, pP_pick, pP_build, pP_nil_ptr, pP_nil_func, pP_bin, pP_eq, pP_neg, pP_inv, pP_not, pP_convInt, pP_convStr, pP_fieldAddr, pP_field, pP_indexAddr, pP_indexStr, pP_sliceStr, pP_sliceSl, pP_lenStr, pP_lenNil, pP_lenSl, pP_min, pP_max, pP_extract, pP_mkfn, bV_add, bV_sub, bV_mul, bV_quo, bV_rem, bV_and, bV_or, bV_xor, bV_andNot, bV_eql, bV_neq, bV_lss, bV_leq, bV_gtr, bV_geq, bV_shl, bV_shr, bV_str, eV_bool, eV_nn, eV_np, eV_pn, eV_snn, eV_sns, eV_ssn, eV_mnn, eV_mnm, eV_mmn, eV_fnn, eV_fnf, eV_ffn, eV_agg, rP_load, rP_lenNil, rP_str0, rdEl_K, rdK_row, aP_alloc, aP_box, aP_buildSlice, aP_makeSlice, aP_makeMap, aP_toBytes, hP_store, storeK_some, st_K, stK_row, stE_some, cells_agg, cells_bool, scalar_bool, cells_int, scalar_int, cells_str, scalar_str, cells_nilptr, scalar_nilptr, cells_ptr, scalar_ptr, cells_nilslice, scalar_nilslice, cells_slice, scalar_slice, cells_nilmap, scalar_nilmap, cells_map, scalar_map, cells_nilfunc, scalar_nilfunc, cells_func, scalar_func, eqCells, eqLeaf, run_toL, toL_some, ev_toL, getD_toL, put_toL, keep_toL, asc, fput_same, fput_ne, fbase_nil, fbase_cons, fkeep_nil, fkeep_cons, fzero, fnone, List.map_cons, List.map_nil, ev_lit, put_none, resVals, resVal, resOf, partV, fillA, putCells, fillEls, strBin, minV, optNat, appendEls, elsOf, sliceSlV, sliceStrV, List.replicate, List.getElem?_append_left, List.getElem?_append_right, List.set_append_left, List.set_append_right, List.getElem?_set_self, List.getElem?_set_ne, hq_get0, hq_get, hq_get2, hq_get3, hp_get0, hp_get, hp_get2, hp_get3, hp_set0, hp_set, hp_set2, hp_set3, wr_0, wr_1, wr_2, wr_3, wr_4, wr_n1, f0', f3', f7', b64, b64', e4, hwA, hwt, hQ'])
    | (have h64 : ¬ (64 : Int) < A := by simpa using b64
       rw [if_neg h64] at hwt
       simp [yld_some, exec_reg, exec_dreg, exec_seq, exec_cond, exec_block, exec_scope, exec_exit, exec_ret, exec_skip, exec_loop, ops_nil, ops_cons, ops_cons_gd, stages_nil, stages_cons_n, stages_cons_h, recheck, wantsOp, AV.same, sames, evalOp_p, evalOp_r, evalOp_a, evalOp_call, evalOp_callV, evalOp_store, evalOp_append, evalOp_clear, evalOp_mapUpdate, evalOp_delete, pP_move, pP_pick, pP_build, pP_nil_ptr, pP_nil_func, pP_bin, pP_eq, pP_neg, pP_inv, pP_not, pP_convInt, pP_convStr, pP_fieldAddr, pP_field, pP_indexAddr, pP_indexStr, pP_sliceStr, pP_sliceSl, pP_lenStr, pP_lenNil, pP_lenSl, pP_min, pP_max, pP_extract, pP_mkfn, bV_add, bV_sub, bV_mul, bV_quo, bV_rem, bV_and, bV_or, bV_xor, bV_andNot, bV_eql, bV_neq, bV_lss, bV_leq, bV_gtr, bV_geq, bV_shl, bV_shr, bV_str, eV_bool, eV_nn, eV_np, eV_pn, eV_snn, eV_sns, eV_ssn, eV_mnn, eV_mnm, eV_mmn, eV_fnn, eV_fnf, eV_ffn, eV_agg, rP_load, rP_lenNil, rP_str0, rdEl_K, rdK_row, aP_alloc, aP_box, aP_buildSlice, aP_makeSlice, aP_makeMap, aP_toBytes, hP_store, storeK_some, st_K, stK_row, stE_some, cells_agg, cells_bool, scalar_bool, cells_int, scalar_int, cells_str, scalar_str, cells_nilptr, scalar_nilptr, cells_ptr, scalar_ptr, cells_nilslice, scalar_nilslice, cells_slice, scalar_slice, cells_nilmap, scalar_nilmap, cells_map, scalar_map, cells_nilfunc, scalar_nilfunc, cells_func, scalar_func, eqCells, eqLeaf, run_toL, toL_some, ev_toL, getD_toL, put_toL, keep_toL, asc, fput_same, fput_ne, fbase_nil, fbase_cons, fkeep_nil, fkeep_cons, fzero, fnone, List.map_cons, List.map_nil, ev_lit, put_none, resVals, resVal, resOf, partV, fillA, putCells, fillEls, strBin, minV, optNat, appendEls, elsOf, sliceSlV, sliceStrV, List.replicate, List.getElem?_append_left, List.getElem?_append_right, List.set_append_left, List.set_append_right, List.getElem?_set_self, List.getElem?_set_ne, hq_get0, hq_get, hq_get2, hq_get3, hp_get0, hp_get, hp_get2, hp_get3, hp_set0, hp_set, hp_set2, hp_set3, wr_0, wr_1, wr_2, wr_3, wr_4, wr_n1, f0', f3', f7', b64, b64', e4, hwA, hwt, hQ'])
end Go.Proofs.Ytmbkklobijflkaa.Lk
namespace Go.Proofs.Ytmbkklobijflkaa.Pure
open Go Go.Eng
theorem LinkFar : LawOk Try.prog 3 F.ss3 := by
  refine ⟨Lk.fs2, Lk.ex2, Lk.fs2_ok, Lk.ex2_ok, fun vs h _ hv => ?_⟩
  simp only [F.ss3, HasVs, HasV, HasF, Has] at hv
  obtain ⟨_, _, rfl, ⟨t, hx, _⟩, rfl⟩ := hv
  cases hx
  exact Lk.far_call t h
end Go.Proofs.Ytmbkklobijflkaa.Pure
