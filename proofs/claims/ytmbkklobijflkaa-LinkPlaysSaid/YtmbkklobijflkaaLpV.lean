/- The document's link: a packet comes: what is told. -/
import Derived.Test.YtmbkklobijflkaaLpU
set_option maxRecDepth 100000
set_option linter.unusedVariables false
set_option linter.unusedSimpArgs false
namespace Go.Proofs.Ytmbkklobijflkaa.Lp
open Go Go.Eng F Lk Bk BkI

theorem lv_scalar (y : Lv) : ∀ a ∈ y.av, a.scalar = true := by
  intro a ha
  simp only [Lv.av, List.mem_cons, List.not_mem_nil, or_false] at ha
  rcases ha with rfl | rfl | rfl | rfl | rfl | rfl | rfl | rfl | rfl | rfl | rfl | rfl | rfl | rfl | rfl | rfl | rfl | rfl | rfl | rfl | rfl
  all_goals first | rfl | exact sv_scalar _
/-- A list that can be read, and one of it. -/
theorem parts {k : H} {kv : AV} {P : List Pv} (o : RdS k 25 kv (pvs P)) (hc : capOk kv) {i : Nat} (hi : i < P.length) :
    ∃ b c x, kv = .slice b 25 0 P.length c x ∧ P.length ≤ c ∧ ∀ k', (∀ y, k[b]? = some y → k'[b]? = some y) → elsOf k' 25 (.slice b 25 0 i c x) = some (pvs (P.take i)) ∧ elsOf k' 25 (.slice b 25 (i + 1) (P.length - (i + 1)) (c - (i + 1)) x) = some (pvs (P.drop (i + 1))) := by
  rcases o with ⟨rfl, h⟩ | ⟨b, c, x, rfl, h⟩ | ⟨b, c, x, els, wr, ap, rfl, h2, h3, h4⟩
  · have := congrArg List.length h; rw [pvs_len, List.length_nil] at this; omega
  · have := congrArg List.length h; rw [pvs_len, List.length_nil] at this; omega
  · rw [pvs_len] at h3 h4 hc ⊢
    simp only [capOk] at hc
    refine ⟨b, c, x, rfl, hc, fun k' hk => ?_⟩
    have hb := hk _ h2
    constructor
    · by_cases h0 : i = 0
      · subst h0; simp [elsOf, pvs]
      · have hle : 0 + i ≤ els.length := by omega
        simp only [elsOf, h0, if_false, hb, hle, and_self, if_true, List.drop_zero]
        have : pvs (P.take i) = (pvs P).take i := by simp [pvs]
        rw [this, ← h3, List.take_take, Nat.min_eq_left (by omega)]
    · by_cases h0 : P.length - (i + 1) = 0
      · have : P.drop (i + 1) = [] := List.drop_of_length_le (by omega)
        simp [elsOf, h0, this, pvs]
      · have hle : i + 1 + (P.length - (i + 1)) ≤ els.length := by omega
        simp only [elsOf, h0, if_false, hb, hle, and_self, if_true]
        have : pvs (P.drop (i + 1)) = (pvs P).drop (i + 1) := by simp [pvs]
        rw [this, ← h3, List.drop_take]
theorem erase_parts (P : List Pv) (i : Nat) : pvs (P.take i) ++ pvs (P.drop (i + 1)) = pvs (P.eraseIdx i) := by
  rw [List.eraseIdx_eq_take_drop_succ]; simp [pvs]
set_option maxHeartbeats 8000000 in
theorem told_loop {lv : List Nat} {body : SCode} (hb : (Bk.loopsAll sf21.body)[1]? = some (lv, body)) {f : Nat → AV} {k : H} {r : Nat} {ov kv : AV} {q : Rs} (a : RefAt k r ov kv q) (hl : q.P.length < 100000) (hc : 0 ≤ q.came ∧ q.came < 4611686018427387904)
    (f0 : f 0 = .ptr r 0 0) (f9 : f 9 = .nilslice) (f10 : f 10 = .int .i64 (idxV (idxP (q.came + 1) q.P))) {R : (Ex × Env) × H → Prop}
    (hR : ∀ (f' : Nat → AV) (k' : H) (kv' vo : AV), f' 0 = .ptr r 0 0 → f' 5 = f 5 → f' 9 = vo → Chg k k' [r] → RefAt k' r ov kv' { q with came := (rdrain q.P.length q.came q.P).1, P := (rdrain q.P.length q.came q.P).2.1 } →
      OwnE k' 21 vo (lts (rdrain q.P.length q.came q.P).2.2) → (∀ c ∈ foot vo, k.length ≤ c) → (∀ c ∈ foot0 kv', c ∈ foot0 kv ∨ k.length ≤ c) → (∀ c ∈ foot vo, c ∉ foot0 kv') → R ((.exit 2, toL 186 f'), k')) :
    Yld (itw (fun env => exec (call Lp.fs3 Lp.ex3) itw body (keepFrom lv 0 env)) (toL 186 f) k) R := by
  simp [sf21, Bk.loopsAll] at hb
  obtain ⟨rfl, rfl⟩ := hb
  generalize hD : rdrain q.P.length q.came q.P = D at hR
  have hrk := (List.getElem?_eq_some_iff.1 a.row).1
  refine yld_rounds (fun m e kk => ∃ f' c l o vo kvv, e = toL 186 f' ∧ m = l.length ∧ f' 0 = .ptr r 0 0 ∧ f' 5 = f 5 ∧ f' 9 = vo ∧ f' 10 = .int .i64 (idxV (idxP (c + 1) l)) ∧ RefAt kk r ov kvv { q with came := c, P := l } ∧ OwnE kk 21 vo (lts o) ∧ Chg k kk [r] ∧ (∀ z ∈ foot vo, k.length ≤ z) ∧
    (∀ z ∈ foot0 kvv, z ∈ foot0 kv ∨ k.length ≤ z) ∧ (∀ z ∈ foot vo, z ∉ foot0 kvv) ∧ (∀ z ∈ foot vo, z ∉ foot0 ov) ∧ 0 ≤ c ∧ c + l.length < 4611686018427487904 ∧ o.length + l.length < 100000 ∧ (rdrain l.length c l).1 = D.1 ∧ (rdrain l.length c l).2.1 = D.2.1 ∧ o ++ (rdrain l.length c l).2.2 = D.2.2) q.P.length ?_ ?_
  · exact ⟨f, q.came, q.P, [], .nilslice, kv, rfl, rfl, f0, rfl, f9, f10, a, .inl ⟨rfl, rfl⟩, Chg.refl _ _, by simp [foot], fun z hz => .inl hz, by simp [foot], by simp [foot], hc.1, by omega, by simpa using hl, by rw [hD], by rw [hD], by rw [hD]; rfl⟩
  · generalize f 5 = w5 at hR ⊢
    clear f0 f9 f10
    rintro J R' hJ hR' z e kk ⟨f, c, l, o, vo, kvv, rfl, rfl, f0, f5, f9, f10, ak, ho, hch, hfo, hfk, hvk, hvo, hc0, hc1, hol, hD1, hD2, hD3⟩
    have kl := hch.1
    cases hx : idxP (c + 1) l with
    | none =>
      rw [rdrain_none hx] at hD1 hD2 hD3
      simp at hD1 hD2 hD3
      rw [hx] at f10
      have f10 : f 10 = .int .i64 (-1) := f10
      simp [yld_some, exec_reg, exec_dreg, exec_seq, exec_cond, exec_block, exec_scope, exec_exit, exec_ret, exec_skip, exec_loop, ops_nil, ops_cons, ops_cons_gd, stages_nil, stages_cons_n, stages_cons_h, recheck, wantsOp, AV.same, sames, evalOp_p, evalOp_r, evalOp_a, evalOp_call, evalOp_callV, evalOp_store, evalOp_append, evalOp_clear, evalOp_mapUpdate, evalOp_delete, pP_move, pP_pick, pP_build, pP_nil_ptr, pP_nil_func, pP_bin, pP_eq, pP_neg, pP_inv, pP_not, pP_convInt, pP_convStr, pP_fieldAddr, pP_field, pP_indexAddr, pP_indexStr, pP_sliceStr, pP_sliceSl, pP_lenStr, pP_lenNil, pP_lenSl, pP_min, pP_max, pP_extract, pP_mkfn, bV_add, bV_sub, bV_mul, bV_quo, bV_rem, bV_and, bV_or, bV_xor, bV_andNot, bV_eql, bV_neq, bV_lss, bV_leq, bV_gtr, bV_geq, bV_shl, bV_shr, bV_str, eV_bool, eV_nn, eV_np, eV_pn, eV_snn, eV_sns, eV_ssn, eV_mnn, eV_mnm, eV_mmn, eV_fnn, eV_fnf, eV_ffn, eV_agg, rP_load, rP_lenNil, rP_str0, rdEl_K, rdK_row, aP_alloc, aP_box, aP_buildSlice, aP_makeSlice, aP_makeMap, aP_toBytes, hP_store, storeK_some, st_K, stK_row, stE_some, cells_agg, cells_bool, scalar_bool, cells_int, scalar_int, cells_str, scalar_str, cells_nilptr, scalar_nilptr, cells_ptr, scalar_ptr, cells_nilslice, scalar_nilslice, cells_slice, scalar_slice, cells_nilmap, scalar_nilmap, cells_map, scalar_map, cells_nilfunc, scalar_nilfunc, cells_func, scalar_func, eqCells, eqLeaf, run_toL, toL_some, ev_toL, getD_toL, put_toL, keep_toL, asc, fput_same, fput_ne, fbase_nil, fbase_cons, fkeep_nil, fkeep_cons, fzero, fnone, List.map_cons, List.map_nil, ev_lit, put_none, resVals, resVal, resOf, partV, fillA, putCells, fillEls, strBin, minV, optNat, appendEls, elsOf, sliceSlV, sliceStrV, List.replicate, List.getElem?_append_left, List.getElem?_append_right, List.set_append_left, List.set_append_right, List.getElem?_set_self, List.getElem?_set_ne, hq_get0, hq_get, hq_get2, hq_get3, hp_get0, hp_get, hp_get2, hp_get3, hp_set0, hp_set, hp_set2, hp_set3, wr_0, wr_1, wr_2, wr_3, wr_4, wr_n1, f0, f5, f9, f10]
      subst hD3
      rw [← hD1, ← hD2] at hR
      exact hR' _ (hR _ _ kvv vo rfl rfl rfl hch ak ho hfo hfk hvk)
    | some i =>
      have hil := idxP_lt hx
      rw [hx] at f10
      have f10 : f 10 = .int .i64 (i : Nat) := f10
      have hle : (l.eraseIdx i).length + 1 = l.length := by rw [List.length_eraseIdx_of_lt hil]; omega
      have hd : rdrain l.length c l = ((rdrain (l.eraseIdx i).length (c + 1) (l.eraseIdx i)).1, (rdrain (l.eraseIdx i).length (c + 1) (l.eraseIdx i)).2.1, [l[i].y] ++ (rdrain (l.eraseIdx i).length (c + 1) (l.eraseIdx i)).2.2) := by
        rw [← hle]; simp only [rdrain, hx]; simp [hil]
      rw [hd] at hD1 hD2 hD3
      have d0 : decide ((0 : Int) ≤ (i : Nat)) = true := dec_true (by omega)
      have w1 : IntKind.i64.wrap (c + 1) = c + 1 := wrap_i64 (by omega) (by omega)
      have w2 : IntKind.i64.wrap (c + 1 + 1) = c + 1 + 1 := wrap_i64 (by omega) (by omega)
      have wi : IntKind.i64.wrap ((i : Int) + 1) = ((i + 1 : Nat) : Int) := wrap_i64 (by omega) (by omega)
      have hr := ak.row
      obtain ⟨ip, gp⟩ := ak.kk.idx (i := i) (by rw [pvs_len]; exact hil)
      have hp : (pvs l)[i]? = some (l[i]).av := by simp [pvs, hil]
      rw [hp] at gp
      -- what is told
      have ho1 := own_app1 (k := [.row 21 [(l[i]).y.av] true true]) ho
      obtain ⟨vo', k1, e1, o1, c1, f1⟩ := ownE_append ho1 (x := .slice kk.length 21 0 1 1 true) (X := [(l[i]).y.av]) (.inr <| .inr ⟨kk.length, 1, true, [(l[i]).y.av], true, true, rfl, by simp, rfl, by simp⟩) (by simp) (by simpa using lv_scalar (l[i]).y) (by simp [lts]; omega)
      have c1' : Chg kk k1 (foot vo) := ((Chg.app kk _ (foot vo))).trans c1 (fun z hz => .inl hz)
      have a1 := ak.keep c1' (fun hm => by have := hfo r hm; omega) (fun z hz hm => hvo z hm hz) (fun z hz hm => hvk z hm hz)
      have len1 := c1'.1
      have f1' : ∀ z ∈ foot vo', kk.length + 1 ≤ z ∧ z < k1.length := fun z hz => ⟨by have := f1 z hz; simp at this; omega, o1.lt z hz⟩
      obtain ⟨b, cp, fx, hkv, hcp, hels⟩ := parts a1.kk a1.cap hil
      simp only at hkv hcp hels
      have hz1 : (0 : Int) ≤ (i : Int) + 1 := by omega
      -- the packets but one
      obtain ⟨t1, k2, e2, o2, c2, f2⟩ := app_els (k := k1) (es := 25) (v := .nilslice) (L := []) (.inl ⟨rfl, rfl⟩) (hels k1 (fun _ h => h)).1 (pvs_scalar _) (by simp [pvs_len]; omega)
      have c2' : Chg k1 k2 [] := by simpa [foot] using c2
      have len2 := c2'.1
      obtain ⟨kv', k3, e3, o3, c3, f3⟩ := app_els o2 (hels k2 (fun y h => c2'.2 b y (by simp) h)).2 (pvs_scalar _) (by simp [pvs_len]; omega)
      have ft1 : ∀ z ∈ foot t1, k1.length ≤ z := fun z hz => by have := f2 z hz; simpa [foot] using this
      have fk' : ∀ z ∈ foot kv', k1.length ≤ z := fun z hz => by rcases f3 z hz with h | h; exact ft1 z h; omega
      have len3 := c3.1
      have c3' : Chg k1 k3 [] := ⟨by omega, fun z y hn hy => c3.2 z y (fun hm => by have := ft1 z hm; have := (List.getElem?_eq_some_iff.1 hy).1; omega) (c2'.2 z y (by simp) hy)⟩
      rw [List.nil_append, erase_parts] at o3
      have gr1 := a1.row
      have gr2 := c2'.2 _ _ (by simp) gr1
      have gr3 := c3'.2 _ _ (by simp) gr1
      obtain ⟨A1, hA1⟩ : ∃ A : Blk, A = rrow { q with came := c, P := l.eraseIdx i } ov kv' := ⟨_, rfl⟩
      obtain ⟨A2, hA2⟩ : ∃ A : Blk, A = rrow { q with came := c + 1, P := l.eraseIdx i } ov kv' := ⟨_, rfl⟩
      have gr4 : (k3.set r A1)[r]? = some A1 := get_set_same gr3
      have cr : Chg k3 (k3.set r A2) [r] := (Chg.refl _ _).set (.inl (by simp))
      have gr5 : (k3.set r A2)[r]? = some A2 := get_set_same gr3
      have hrk1 : r < k1.length := by omega
      have a5 : RefAt (k3.set r A2) r ov kv' { q with came := c + 1, P := l.eraseIdx i } := ⟨by rw [gr5, hA2], (a1.oo.keep0 c3' (by simp)).keep0 cr (fun z hz => by simp only [List.mem_singleton]; rintro rfl; exact a1.no hz), o3.rds.keep cr (fun z hz => by have := fk' z hz; simp only [List.mem_singleton]; omega), a1.no, fun hm => by have := fk' r (foot0_sub hm); omega, cap_own o3⟩
      have e31 := rkept_call a5 (by show (l.eraseIdx i).length < 4294967296; omega) (c + 1 + 1)
      have o5 : OwnE (k3.set r A2) 21 vo' (lts (o ++ [(l[i]).y])) := by
        have h : lts (o ++ [(l[i]).y]) = lts o ++ [(l[i]).y.av] := by simp [lts]
        rw [h]
        exact (o1.keep c3' (by simp)).keep cr (fun z hz => by have := f1' z hz; simp only [List.mem_singleton]; omega)
      have cc : Chg k (k3.set r A2) [r] := ((hch.trans c1' (fun z hz => .inr (hfo z hz))).trans c3' (by simp)).trans cr (fun z hz => .inl hz)
      have s1 := ho.rds.cells
      have s2 := o2.rds.cells
      have s3 := o3.rds.cells
      have s4 := ak.kk.cells
      have s5 := ak.oo.cells
      have hi1 : i ≤ l.length := by omega
      have hi2 : i + 1 ≤ l.length := by omega
      have hi3 : i ≤ cp := by omega
      subst hkv
      subst hA1 hA2
      unfold rrow at hr gr1 gr2 gr3 gr4 gr5 e31 o5 cc a5
      have a5' := a5
      simp only at e31 hr gr1 gr2 gr3 gr4 gr5
      unfold Pv.av at gp
      unfold Lv.av at e1
      simp [yld_some, exec_reg, exec_dreg, exec_seq, exec_cond, exec_block, exec_scope, exec_exit, exec_ret, exec_skip, exec_loop, ops_nil, ops_cons, ops_cons_gd, stages_nil, stages_cons_n, stages_cons_h, recheck, wantsOp, AV.same, sames, evalOp_p, evalOp_r, evalOp_a, evalOp_call, evalOp_callV, evalOp_store, evalOp_append, evalOp_clear, evalOp_mapUpdate, evalOp_delete, pP_move, pP_pick, pP_build, pP_nil_ptr, pP_nil_func, pP_bin, pP_eq, pP_neg, pP_inv, pP_not, pP_convInt, pP_convStr, pP_fieldAddr, pP_field, pP_indexAddr, pP_indexStr, pP_sliceStr, pP_sliceSl, pP_lenStr, pP_lenNil, pP_lenSl, pP_min, pP_max, pP_extract, pP_mkfn, bV_add, bV_sub, bV_mul, bV_quo, bV_rem, bV_and, bV_or, bV_xor, bV_andNot, bV_eql, bV_neq, bV_lss, bV_leq, bV_gtr, bV_geq, bV_shl, bV_shr, bV_str, eV_bool, eV_nn, eV_np, eV_pn, eV_snn, eV_sns, eV_ssn, eV_mnn, eV_mnm, eV_mmn, eV_fnn, eV_fnf, eV_ffn, eV_agg, rP_load, rP_lenNil, rP_str0, rdEl_K, rdK_row, aP_alloc, aP_box, aP_buildSlice, aP_makeSlice, aP_makeMap, aP_toBytes, hP_store, storeK_some, st_K, stK_row, stE_some, cells_agg, cells_bool, scalar_bool, cells_int, scalar_int, cells_str, scalar_str, cells_nilptr, scalar_nilptr, cells_ptr, scalar_ptr, cells_nilslice, scalar_nilslice, cells_slice, scalar_slice, cells_nilmap, scalar_nilmap, cells_map, scalar_map, cells_nilfunc, scalar_nilfunc, cells_func, scalar_func, eqCells, eqLeaf, run_toL, toL_some, ev_toL, getD_toL, put_toL, keep_toL, asc, fput_same, fput_ne, fbase_nil, fbase_cons, fkeep_nil, fkeep_cons, fzero, fnone, List.map_cons, List.map_nil, ev_lit, put_none, resVals, resVal, resOf, partV, fillA, putCells, fillEls, strBin, minV, optNat, appendEls, elsOf, sliceSlV, sliceStrV, List.replicate, List.getElem?_append_left, List.getElem?_append_right, List.set_append_left, List.set_append_right, List.getElem?_set_self, List.getElem?_set_ne, hq_get0, hq_get, hq_get2, hq_get3, hp_get0, hp_get, hp_get2, hp_get3, hp_set0, hp_set, hp_set2, hp_set3, wr_0, wr_1, wr_2, wr_3, wr_4, wr_n1, f0, f5, f9, f10, d0, w1, w2, wi, hr, get_app hr, set_app hr, get_set_same hr, get_set_app hr, set_set_app hr, len_beq hr, beq_len hr, ip, gp, e1, gr1, get_app gr1, set_app gr1, get_set_same gr1, get_set_app gr1, set_set_app gr1, len_beq gr1, beq_len gr1, gr2, get_app gr2, set_app gr2, get_set_same gr2, get_set_app gr2, set_set_app gr2, len_beq gr2, beq_len gr2, gr3, get_app gr3, set_app gr3, get_set_same gr3, get_set_app gr3, set_set_app gr3, len_beq gr3, beq_len gr3, gr4, get_app gr4, set_app gr4, get_set_same gr4, get_set_app gr4, set_set_app gr4, len_beq gr4, beq_len gr4, gr5, get_app gr5, set_app gr5, get_set_same gr5, get_set_app gr5, set_set_app gr5, len_beq gr5, beq_len gr5, e2, e3, e31, s1.1, s1.2.1, s1.2.2, s2.1, s2.2.1, s2.2.2, s3.1, s3.2.1, s3.2.2, s4.1, s4.2.1, s4.2.2, s5.1, s5.2.1, s5.2.2, hz1, hi1, hi2, hi3, hcp, sv_cells, sv_scalar, sv_same]
      refine ⟨(l.eraseIdx i).length, by omega, hJ _ _ _ ⟨_, c + 1, l.eraseIdx i, o ++ [(l[i]).y], vo', kv', rfl, rfl, rfl, rfl, rfl, rfl, a5, o5, cc, ?_, ?_, ?_, ?_, by omega, by omega, by simp; omega, hD1, hD2, by simpa using hD3⟩⟩
      · intro z hz; have := f1' z hz; omega
      · intro z hz; have := fk' z (foot0_sub hz); exact .inr (by omega)
      · intro z hz hm; have := f1' z hz; have := fk' z (foot0_sub hm); omega
      · intro z hz hm; have := f1' z hz; have := ak.oo.lt0 z hm; omega
end Go.Proofs.Ytmbkklobijflkaa.Lp
