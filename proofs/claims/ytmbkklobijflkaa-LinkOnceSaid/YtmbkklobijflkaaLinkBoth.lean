/- Link: LinkBoth over the engine. -/
import Derived.Test.YtmbkklobijflkaaLinkBothB
set_option maxRecDepth 100000
set_option linter.unusedVariables false
set_option linter.unusedSimpArgs false
namespace Go.Proofs.Ytmbkklobijflkaa.Lk
open Go Go.Eng F

def ints (l : List Int) : List (List AV) := l.map fun x => [.int .i64 x]
theorem ints_len (l : List Int) : (ints l).length = l.length := by simp [ints]
theorem ints_get (l : List Int) {i : Nat} (h : i < (ints l).length) : (ints l)[i] = [.int .i64 (l[i]'(by simpa [ints] using h))] := by simp [ints]
def Ups (a b : Int) (x : Nat → Lt) (n : Nat) (U : List Pk) : Prop := ∀ p ∈ U, ∃ j : Nat, 1 ≤ j ∧ j ≤ n ∧ p = ⟨a, b, (j : Int), ((0 : Nat) : Int), x j⟩
theorem pks_get (U : List Pk) {i : Nat} (h : i < (pks U).length) : (pks U)[i] = Pk.av (U[i]'(by simpa [pks] using h)) := by simp [pks]
theorem lts_get (U : List Lt) {i : Nat} (h : i < (lts U).length) : (lts U)[i] = Lt.av (U[i]'(by simpa [lts] using h)) := by simp [lts]
theorem set2 (l : List (List Nat)) (i j n : Nat) (F G : List Nat) (hi : i < l.length) (hj : j < l.length) : ((l.set i F).set j G).getD n [] = if j = n then G else if i = n then F else l.getD n [] := by
  rw [getD_set _ _ _ _ (by simpa using hj), getD_set _ _ _ _ hi]

set_option maxHeartbeats 16000000 in
/-- The first loop: A sends. -/
theorem sendA_loop {lvs : List Nat} {body : SCode} (hb : (loopsAll sf9.body)[0]? = some (lvs, body)) {n m : Nat} (hn : n ≤ 20) (hm : m ≤ 20) {ga ma gb mb : Nat} {kk : H} {A0 B : Ls} {va0 vb v : AV} {els : List (List AV)} {l0 : List (List Nat)} {f : Nat → AV}
    (w0 : Wd kk l0 ga ma gb mb va0 vb .nilslice .nilslice A0 B [] []) (b0 : Bo xk yk 1 2 0 0 A0 B [] [] 0 0 0 0) (hl0 : l0.length = 7) (h4 : l0.getD 4 [] = []) (h5 : l0.getD 5 [] = []) (h6 : l0.getD 6 [] = sfoot v els) (hv : SlOf kk 1 v els) (tA : Tm 0 A0)
    (f0 : f 0 = .int .i64 (n : Nat)) (f1 : f 1 = .int .i64 (m : Nat)) (f2 : f 2 = v) (f7 : f 7 = .ptr ga 0 0) (f8 : f 8 = .ptr gb 0 0) (f9 : f 9 = .nilslice) (f10 : f 10 = .nilslice) (f11 : f 11 = .int .i64 1) {Q : (Ex × Env) × H → Prop}
    (hQ : ∀ (f' : Nat → AV) (k' : H) (A : Ls) (va uv : AV) (U : List Pk) (l : List (List Nat)), f' 0 = .int .i64 (n : Nat) → f' 1 = .int .i64 (m : Nat) → f' 2 = v → f' 7 = .ptr ga 0 0 → f' 8 = .ptr gb 0 0 → f' 9 = uv → f' 10 = .nilslice →
      Wd k' l ga ma gb mb va vb .nilslice .nilslice A B [] [] → Bo xk yk 1 2 n 0 A B [] [] 0 0 0 0 → l.length = 7 → l.getD 4 [] = foot uv → l.getD 5 [] = [] → l.getD 6 [] = sfoot v els → SlOf k' 1 v els → Own k' 25 uv (pks U) → U.length ≤ n → Ups 1 2 xk n U → Tm 0 A → Q ((.exit 0, toL 261 f'), k')) :
    Yld (itw (fun env => exec (call fs2 ex2) itw body (keepFrom lvs 0 env)) (toL 261 f) kk) Q := by
  simp [sf9, loopsAll] at hb
  obtain ⟨rfl, rfl⟩ := hb
  have sv : v.cells = some [v] ∧ v.scalar = true := slOf_cells hv
  refine yld_rounds (fun z e k => ∃ (f : Nat → AV) (i : Nat) (A : Ls) (va uv : AV) (U : List Pk) (l : List (List Nat)), e = toL 261 f ∧ z = n - i ∧ i ≤ n ∧ Wd k l ga ma gb mb va vb .nilslice .nilslice A B [] [] ∧ Bo xk yk 1 2 i 0 A B [] [] 0 0 0 0 ∧ l.length = 7 ∧ l.getD 4 [] = foot uv ∧ l.getD 5 [] = [] ∧ l.getD 6 [] = sfoot v els ∧ SlOf k 1 v els ∧
    Own k 25 uv (pks U) ∧ U.length = i ∧ Ups 1 2 xk i U ∧ Tm 0 A ∧ f 0 = .int .i64 (n : Nat) ∧ f 1 = .int .i64 (m : Nat) ∧ f 2 = v ∧ f 7 = .ptr ga 0 0 ∧ f 8 = .ptr gb 0 0 ∧ f 9 = uv ∧ f 10 = .nilslice ∧ f 11 = .int .i64 ((i + 1 : Nat) : Int)) (n - 0) ?_ ?_
  · exact ⟨f, 0, A0, va0, .nilslice, [], l0, rfl, rfl, Nat.zero_le _, w0, b0, hl0, h4, h5, h6, hv, .inl ⟨rfl, rfl⟩, rfl, by simp [Ups], tA, f0, f1, f2, f7, f8, f9, f10, f11⟩
  · clear f0 f1 f2 f7 f8 f9 f10 f11 w0 b0 hv h4 h5 h6
    rintro J Q' hJ hQ' z e k ⟨f, i, A, va, uv, U, l, rfl, rfl, hi, w, b, hl, h4, h5, h6, hv, ou, hU, hup, tA, f0, f1, f2, f7, f8, f9, f10, f11⟩
    by_cases hil : i < n
    · have d0 : decide (((i + 1 : Nat) : Int) ≤ (n : Int)) = true := dec_true (by omega)
      have d1 : decide (i + 1 ≤ n) = true := dec_true (by omega)
      have hwi : IntKind.i64.wrap (((i + 1 : Nat) : Int) + 1) = ((i + 1 + 1 : Nat) : Int) := wrap_i64 (by omega) (by omega)
      obtain ⟨b2, hw2⟩ := b.send (by omega)
      have sa := b.sizes (by omega) (by omega)
      obtain ⟨k1, va', uv', k2, e15, e9, a2, ou2, c2, sp2⟩ := sending w.sp (ia := 0) (iu := 4) (by omega) (by omega) (by omega) w.fa h4 w.a ou (by omega) (by omega) (xk (i + 1)) (p := ⟨1, 2, ((i + 1 : Nat) : Int), ((0 : Nat) : Int), xk (i + 1)⟩) (by rw [b.me, b.peer, hw2, b.came]; simp)
      have off : ∀ j, j ≠ 0 → j ≠ 4 → ∀ c ∈ l.getD j [], c ∉ l.getD 0 [] ++ l.getD 4 [] := fun j h0 h1 c hc hm => by
        simp only [List.mem_append] at hm
        rcases hm with hm | hm
        · exact w.sp.ne j 0 h0 c hc hm
        · exact w.sp.ne j 4 h1 c hc hm
      have g : ∀ j, ((l.set 0 (ga :: ma :: foot va')).set 4 (foot uv')).getD j [] = if 4 = j then foot uv' else if 0 = j then ga :: ma :: foot va' else l.getD j [] := fun j => set2 _ _ _ _ _ _ (by omega) (by omega)
      have w2 : Wd k2 ((l.set 0 (ga :: ma :: foot va')).set 4 (foot uv')) ga ma gb mb va' vb .nilslice .nilslice (A.send (xk (i + 1))) B [] [] :=
        ⟨sp2, by rw [g]; rfl, by rw [g]; exact w.fb, by rw [g]; exact w.fr, by rw [g]; exact w.fl, by simp; omega, a2, w.b.keep' c2 (by rw [← w.fb]; exact off 1 (by omega) (by omega)), .inl ⟨rfl, rfl⟩, .inl ⟨rfl, rfl⟩⟩
      have tA2 : Tm 0 (A.send (xk (i + 1))) := ⟨tA.now, fun w hw => by
        simp only [Ls.send, List.mem_append, List.mem_singleton] at hw
        rcases hw with hw | rfl
        · exact tA.at0 w hw
        · exact tA.now, by omega⟩
      have hup2 : Ups 1 2 xk (i + 1) (U ++ [⟨1, 2, ((i + 1 : Nat) : Int), ((0 : Nat) : Int), xk (i + 1)⟩]) := by
        intro p hp
        rcases List.mem_append.1 hp with hp | hp
        · obtain ⟨j, q1, q2, q3⟩ := hup p hp
          exact ⟨j, q1, by omega, q3⟩
        · simp only [List.mem_singleton] at hp
          exact ⟨i + 1, by omega, by omega, hp⟩
      have so := ou2.cells
      have so2 := ou2.scalar
      simp only [xk, Lt.av, Pk.av, Lt.zero, Int.natCast_zero] at e15 e9
      generalize hj : (i + 1 : Nat) = j at *
      simp [yld_some, exec_reg, exec_dreg, exec_seq, exec_cond, exec_block, exec_scope, exec_exit, exec_ret, exec_skip, exec_loop, ops_nil, ops_cons, ops_cons_gd, stages_nil, stages_cons_n, stages_cons_h, recheck, wantsOp, AV.same, sames, evalOp_p, evalOp_r, evalOp_a, evalOp_call, evalOp_callV, evalOp_store, evalOp_append, evalOp_clear, evalOp_mapUpdate, evalOp_delete, pP_move, pP_pick, pP_build, pP_nil_ptr, pP_nil_func, pP_bin, pP_eq, pP_neg, pP_inv, pP_not, pP_convInt, pP_convStr, pP_fieldAddr, pP_field, pP_indexAddr, pP_indexStr, pP_sliceStr, pP_sliceSl, pP_lenStr, pP_lenNil, pP_lenSl, pP_min, pP_max, pP_extract, pP_mkfn, bV_add, bV_sub, bV_mul, bV_quo, bV_rem, bV_and, bV_or, bV_xor, bV_andNot, bV_eql, bV_neq, bV_lss, bV_leq, bV_gtr, bV_geq, bV_shl, bV_shr, bV_str, eV_bool, eV_nn, eV_np, eV_pn, eV_snn, eV_sns, eV_ssn, eV_mnn, eV_mnm, eV_mmn, eV_fnn, eV_fnf, eV_ffn, eV_agg, rP_load, rP_lenNil, rP_str0, rdEl_K, rdK_row, aP_alloc, aP_box, aP_buildSlice, aP_makeSlice, aP_makeMap, aP_toBytes, hP_store, storeK_some, st_K, stK_row, stE_some, cells_agg, cells_bool, scalar_bool, cells_int, scalar_int, cells_str, scalar_str, cells_nilptr, scalar_nilptr, cells_ptr, scalar_ptr, cells_nilslice, scalar_nilslice, cells_slice, scalar_slice, cells_nilmap, scalar_nilmap, cells_map, scalar_map, cells_nilfunc, scalar_nilfunc, cells_func, scalar_func, eqCells, eqLeaf, run_toL, toL_some, ev_toL, getD_toL, put_toL, keep_toL, asc, fput_same, fput_ne, fbase_nil, fbase_cons, fkeep_nil, fkeep_cons, fzero, fnone, List.map_cons, List.map_nil, ev_lit, put_none, resVals, resVal, resOf, partV, fillA, putCells, fillEls, strBin, minV, optNat, appendEls, elsOf, sliceSlV, sliceStrV, List.replicate, List.getElem?_append_left, List.getElem?_append_right, List.set_append_left, List.set_append_right, List.getElem?_set_self, List.getElem?_set_ne, hq_get0, hq_get, hq_get2, hq_get3, hp_get0, hp_get, hp_get2, hp_get3, hp_set0, hp_set, hp_set2, hp_set3, wr_0, wr_1, wr_2, wr_3, wr_4, wr_n1, f0, f1, f2, f7, f8, f9, f10, f11, d0, d1, e15, e9, hwi, sv.1, sv.2]
      exact ⟨n - j, by omega, hJ _ _ _ ⟨_, j, _, va', uv', _, _, rfl, rfl, by omega, w2, b2, by simpa using hl, by rw [g]; rfl, by rw [g]; exact h5, by rw [g]; exact h6, sl_keep hv c2 (by rw [← h6]; exact off 6 (by omega) (by omega)), ou2, by simp; omega, hup2, tA2, rfl, rfl, rfl, rfl, rfl, rfl, rfl, rfl⟩⟩
    · have hin : i = n := by omega
      subst hin
      have d0 : decide (((i + 1 : Nat) : Int) ≤ (i : Int)) = false := dec_false (by omega)
      have d1 : decide ((i : Int) + 1 ≤ (i : Int)) = false := dec_false (by omega)
      simp [yld_some, exec_reg, exec_dreg, exec_seq, exec_cond, exec_block, exec_scope, exec_exit, exec_ret, exec_skip, exec_loop, ops_nil, ops_cons, ops_cons_gd, stages_nil, stages_cons_n, stages_cons_h, recheck, wantsOp, AV.same, sames, evalOp_p, evalOp_r, evalOp_a, evalOp_call, evalOp_callV, evalOp_store, evalOp_append, evalOp_clear, evalOp_mapUpdate, evalOp_delete, pP_move, pP_pick, pP_build, pP_nil_ptr, pP_nil_func, pP_bin, pP_eq, pP_neg, pP_inv, pP_not, pP_convInt, pP_convStr, pP_fieldAddr, pP_field, pP_indexAddr, pP_indexStr, pP_sliceStr, pP_sliceSl, pP_lenStr, pP_lenNil, pP_lenSl, pP_min, pP_max, pP_extract, pP_mkfn, bV_add, bV_sub, bV_mul, bV_quo, bV_rem, bV_and, bV_or, bV_xor, bV_andNot, bV_eql, bV_neq, bV_lss, bV_leq, bV_gtr, bV_geq, bV_shl, bV_shr, bV_str, eV_bool, eV_nn, eV_np, eV_pn, eV_snn, eV_sns, eV_ssn, eV_mnn, eV_mnm, eV_mmn, eV_fnn, eV_fnf, eV_ffn, eV_agg, rP_load, rP_lenNil, rP_str0, rdEl_K, rdK_row, aP_alloc, aP_box, aP_buildSlice, aP_makeSlice, aP_makeMap, aP_toBytes, hP_store, storeK_some, st_K, stK_row, stE_some, cells_agg, cells_bool, scalar_bool, cells_int, scalar_int, cells_str, scalar_str, cells_nilptr, scalar_nilptr, cells_ptr, scalar_ptr, cells_nilslice, scalar_nilslice, cells_slice, scalar_slice, cells_nilmap, scalar_nilmap, cells_map, scalar_map, cells_nilfunc, scalar_nilfunc, cells_func, scalar_func, eqCells, eqLeaf, run_toL, toL_some, ev_toL, getD_toL, put_toL, keep_toL, asc, fput_same, fput_ne, fbase_nil, fbase_cons, fkeep_nil, fkeep_cons, fzero, fnone, List.map_cons, List.map_nil, ev_lit, put_none, resVals, resVal, resOf, partV, fillA, putCells, fillEls, strBin, minV, optNat, appendEls, elsOf, sliceSlV, sliceStrV, List.replicate, List.getElem?_append_left, List.getElem?_append_right, List.set_append_left, List.set_append_right, List.getElem?_set_self, List.getElem?_set_ne, hq_get0, hq_get, hq_get2, hq_get3, hp_get0, hp_get, hp_get2, hp_get3, hp_set0, hp_set, hp_set2, hp_set3, wr_0, wr_1, wr_2, wr_3, wr_4, wr_n1, f0, f1, f2, f7, f8, f9, f10, f11, d0, d1, sv.1, sv.2]
      exact hQ' _ (hQ _ _ A va uv U l rfl rfl rfl rfl rfl rfl rfl w b hl h4 h5 h6 hv ou (by omega) hup tA)
set_option maxHeartbeats 16000000 in
/-- The second loop: B sends. -/
theorem sendB_loop {lvs : List Nat} {body : SCode} (hb : (loopsAll sf9.body)[1]? = some (lvs, body)) {n m : Nat} (hn : n ≤ 20) (hm : m ≤ 20) {ga ma gb mb : Nat} {kk : H} {A B0 : Ls} {va vb0 v uv : AV} {U : List Pk} {els : List (List AV)} {l0 : List (List Nat)} {f : Nat → AV}
    (w0 : Wd kk l0 ga ma gb mb va vb0 .nilslice .nilslice A B0 [] []) (b0 : Bo xk yk 1 2 n 0 A B0 [] [] 0 0 0 0) (hl0 : l0.length = 7) (h4 : l0.getD 4 [] = foot uv) (h5 : l0.getD 5 [] = []) (h6 : l0.getD 6 [] = sfoot v els) (hv : SlOf kk 1 v els) (ou : Own kk 25 uv (pks U)) (tB : Tm 0 B0)
    (f0 : f 0 = .int .i64 (n : Nat)) (f1 : f 1 = .int .i64 (m : Nat)) (f2 : f 2 = v) (f7 : f 7 = .ptr ga 0 0) (f8 : f 8 = .ptr gb 0 0) (f9 : f 9 = uv) (f10 : f 10 = .nilslice) (f12 : f 12 = .int .i64 1) {Q : (Ex × Env) × H → Prop}
    (hQ : ∀ (f' : Nat → AV) (k' : H) (B : Ls) (vb dv : AV) (D : List Pk) (l : List (List Nat)), f' 0 = .int .i64 (n : Nat) → f' 1 = .int .i64 (m : Nat) → f' 2 = v → f' 7 = .ptr ga 0 0 → f' 8 = .ptr gb 0 0 → f' 9 = uv → f' 10 = dv →
      Wd k' l ga ma gb mb va vb .nilslice .nilslice A B [] [] → Bo xk yk 1 2 n m A B [] [] 0 0 0 0 → l.length = 7 → l.getD 4 [] = foot uv → l.getD 5 [] = foot dv → l.getD 6 [] = sfoot v els → SlOf k' 1 v els → Own k' 25 uv (pks U) → Own k' 25 dv (pks D) → D.length ≤ m → Ups 2 1 yk m D → Tm 0 B → Q ((.exit 2, toL 261 f'), k')) :
    Yld (itw (fun env => exec (call fs2 ex2) itw body (keepFrom lvs 0 env)) (toL 261 f) kk) Q := by
  simp [sf9, loopsAll] at hb
  obtain ⟨rfl, rfl⟩ := hb
  have sv : v.cells = some [v] ∧ v.scalar = true := slOf_cells hv
  have su := ou.cells
  have su2 := ou.scalar
  refine yld_rounds (fun z e k => ∃ (f : Nat → AV) (i : Nat) (B : Ls) (vb dv : AV) (D : List Pk) (l : List (List Nat)), e = toL 261 f ∧ z = m - i ∧ i ≤ m ∧ Wd k l ga ma gb mb va vb .nilslice .nilslice A B [] [] ∧ Bo xk yk 1 2 n i A B [] [] 0 0 0 0 ∧ l.length = 7 ∧ l.getD 4 [] = foot uv ∧ l.getD 5 [] = foot dv ∧ l.getD 6 [] = sfoot v els ∧ SlOf k 1 v els ∧
    Own k 25 uv (pks U) ∧ Own k 25 dv (pks D) ∧ D.length = i ∧ Ups 2 1 yk i D ∧ Tm 0 B ∧ f 0 = .int .i64 (n : Nat) ∧ f 1 = .int .i64 (m : Nat) ∧ f 2 = v ∧ f 7 = .ptr ga 0 0 ∧ f 8 = .ptr gb 0 0 ∧ f 9 = uv ∧ f 10 = dv ∧ f 12 = .int .i64 ((i + 1 : Nat) : Int)) (m - 0) ?_ ?_
  · exact ⟨f, 0, B0, vb0, .nilslice, [], l0, rfl, rfl, Nat.zero_le _, w0, b0, hl0, h4, h5, h6, hv, ou, .inl ⟨rfl, rfl⟩, rfl, by simp [Ups], tB, f0, f1, f2, f7, f8, f9, f10, f12⟩
  · clear f0 f1 f2 f7 f8 f9 f10 f12 w0 b0 hv h4 h5 h6 ou
    rintro J Q' hJ hQ' z e k ⟨f, i, B, vb, dv, D, l, rfl, rfl, hi, w, b, hl, h4, h5, h6, hv, ou, od, hD, hup, tB, f0, f1, f2, f7, f8, f9, f10, f12⟩
    by_cases hil : i < m
    · have d0 : decide (((i + 1 : Nat) : Int) ≤ (m : Int)) = true := dec_true (by omega)
      have d1 : decide (i + 1 ≤ m) = true := dec_true (by omega)
      have hwi : IntKind.i64.wrap (((i + 1 : Nat) : Int) + 1) = ((i + 1 + 1 : Nat) : Int) := wrap_i64 (by omega) (by omega)
      obtain ⟨b2', hw2⟩ := b.symm.send (by omega)
      have b2 := b2'.symm
      have sa := b.symm.sizes (by omega) (by omega)
      obtain ⟨k1, vb', dv', k2, e15, e9, a2, od2, c2, sp2⟩ := sending w.sp (ia := 1) (iu := 5) (by omega) (by omega) (by omega) w.fb h5 w.b od (by omega) (by omega) (yk (i + 1)) (p := ⟨2, 1, ((i + 1 : Nat) : Int), ((0 : Nat) : Int), yk (i + 1)⟩) (by rw [b.me', b.peer', hw2, b.came']; simp)
      have off : ∀ j, j ≠ 1 → j ≠ 5 → ∀ c ∈ l.getD j [], c ∉ l.getD 1 [] ++ l.getD 5 [] := fun j h0 h1 c hc hm => by
        simp only [List.mem_append] at hm
        rcases hm with hm | hm
        · exact w.sp.ne j 1 h0 c hc hm
        · exact w.sp.ne j 5 h1 c hc hm
      have g : ∀ j, ((l.set 1 (gb :: mb :: foot vb')).set 5 (foot dv')).getD j [] = if 5 = j then foot dv' else if 1 = j then gb :: mb :: foot vb' else l.getD j [] := fun j => set2 _ _ _ _ _ _ (by omega) (by omega)
      have w2 : Wd k2 ((l.set 1 (gb :: mb :: foot vb')).set 5 (foot dv')) ga ma gb mb va vb' .nilslice .nilslice A (B.send (yk (i + 1))) [] [] :=
        ⟨sp2, by rw [g]; exact w.fa, by rw [g]; rfl, by rw [g]; exact w.fr, by rw [g]; exact w.fl, by simp; omega, w.a.keep' c2 (by rw [← w.fa]; exact off 0 (by omega) (by omega)), a2, .inl ⟨rfl, rfl⟩, .inl ⟨rfl, rfl⟩⟩
      have tB2 : Tm 0 (B.send (yk (i + 1))) := ⟨tB.now, fun w hw => by
        simp only [Ls.send, List.mem_append, List.mem_singleton] at hw
        rcases hw with hw | rfl
        · exact tB.at0 w hw
        · exact tB.now, by omega⟩
      have hup2 : Ups 2 1 yk (i + 1) (D ++ [⟨2, 1, ((i + 1 : Nat) : Int), ((0 : Nat) : Int), yk (i + 1)⟩]) := by
        intro p hp
        rcases List.mem_append.1 hp with hp | hp
        · obtain ⟨j, q1, q2, q3⟩ := hup p hp
          exact ⟨j, q1, by omega, q3⟩
        · simp only [List.mem_singleton] at hp
          exact ⟨i + 1, by omega, by omega, hp⟩
      simp only [yk, Lt.av, Pk.av, Lt.zero, Int.natCast_zero] at e15 e9
      generalize hj : (i + 1 : Nat) = j at *
      simp [yld_some, exec_reg, exec_dreg, exec_seq, exec_cond, exec_block, exec_scope, exec_exit, exec_ret, exec_skip, exec_loop, ops_nil, ops_cons, ops_cons_gd, stages_nil, stages_cons_n, stages_cons_h, recheck, wantsOp, AV.same, sames, evalOp_p, evalOp_r, evalOp_a, evalOp_call, evalOp_callV, evalOp_store, evalOp_append, evalOp_clear, evalOp_mapUpdate, evalOp_delete, pP_move, pP_pick, pP_build, pP_nil_ptr, pP_nil_func, pP_bin, pP_eq, pP_neg, pP_inv, pP_not, pP_convInt, pP_convStr, pP_fieldAddr, pP_field, pP_indexAddr, pP_indexStr, pP_sliceStr, pP_sliceSl, pP_lenStr, pP_lenNil, pP_lenSl, pP_min, pP_max, pP_extract, pP_mkfn, bV_add, bV_sub, bV_mul, bV_quo, bV_rem, bV_and, bV_or, bV_xor, bV_andNot, bV_eql, bV_neq, bV_lss, bV_leq, bV_gtr, bV_geq, bV_shl, bV_shr, bV_str, eV_bool, eV_nn, eV_np, eV_pn, eV_snn, eV_sns, eV_ssn, eV_mnn, eV_mnm, eV_mmn, eV_fnn, eV_fnf, eV_ffn, eV_agg, rP_load, rP_lenNil, rP_str0, rdEl_K, rdK_row, aP_alloc, aP_box, aP_buildSlice, aP_makeSlice, aP_makeMap, aP_toBytes, hP_store, storeK_some, st_K, stK_row, stE_some, cells_agg, cells_bool, scalar_bool, cells_int, scalar_int, cells_str, scalar_str, cells_nilptr, scalar_nilptr, cells_ptr, scalar_ptr, cells_nilslice, scalar_nilslice, cells_slice, scalar_slice, cells_nilmap, scalar_nilmap, cells_map, scalar_map, cells_nilfunc, scalar_nilfunc, cells_func, scalar_func, eqCells, eqLeaf, run_toL, toL_some, ev_toL, getD_toL, put_toL, keep_toL, asc, fput_same, fput_ne, fbase_nil, fbase_cons, fkeep_nil, fkeep_cons, fzero, fnone, List.map_cons, List.map_nil, ev_lit, put_none, resVals, resVal, resOf, partV, fillA, putCells, fillEls, strBin, minV, optNat, appendEls, elsOf, sliceSlV, sliceStrV, List.replicate, List.getElem?_append_left, List.getElem?_append_right, List.set_append_left, List.set_append_right, List.getElem?_set_self, List.getElem?_set_ne, hq_get0, hq_get, hq_get2, hq_get3, hp_get0, hp_get, hp_get2, hp_get3, hp_set0, hp_set, hp_set2, hp_set3, wr_0, wr_1, wr_2, wr_3, wr_4, wr_n1, f0, f1, f2, f7, f8, f9, f10, f12, d0, d1, e15, e9, hwi, sv.1, sv.2, su, su2]
      exact ⟨m - j, by omega, hJ _ _ _ ⟨_, j, _, vb', dv', _, _, rfl, rfl, by omega, w2, b2, by simpa using hl, by rw [g]; exact h4, by rw [g]; rfl, by rw [g]; exact h6, sl_keep hv c2 (by rw [← h6]; exact off 6 (by omega) (by omega)), ou.keep c2 (by rw [← h4]; exact off 4 (by omega) (by omega)), od2, by simp; omega, hup2, tB2, rfl, rfl, rfl, rfl, rfl, rfl, rfl, rfl⟩⟩
    · have hin : i = m := by omega
      subst hin
      have d0 : decide (((i + 1 : Nat) : Int) ≤ (i : Int)) = false := dec_false (by omega)
      have d1 : decide ((i : Int) + 1 ≤ (i : Int)) = false := dec_false (by omega)
      simp [yld_some, exec_reg, exec_dreg, exec_seq, exec_cond, exec_block, exec_scope, exec_exit, exec_ret, exec_skip, exec_loop, ops_nil, ops_cons, ops_cons_gd, stages_nil, stages_cons_n, stages_cons_h, recheck, wantsOp, AV.same, sames, evalOp_p, evalOp_r, evalOp_a, evalOp_call, evalOp_callV, evalOp_store, evalOp_append, evalOp_clear, evalOp_mapUpdate, evalOp_delete, pP_move, pP_pick, pP_build, pP_nil_ptr, pP_nil_func, pP_bin, pP_eq, pP_neg, pP_inv, pP_not, pP_convInt, pP_convStr, pP_fieldAddr, pP_field, pP_indexAddr, pP_indexStr, pP_sliceStr, pP_sliceSl, pP_lenStr, pP_lenNil, pP_lenSl, pP_min, pP_max, pP_extract, pP_mkfn, bV_add, bV_sub, bV_mul, bV_quo, bV_rem, bV_and, bV_or, bV_xor, bV_andNot, bV_eql, bV_neq, bV_lss, bV_leq, bV_gtr, bV_geq, bV_shl, bV_shr, bV_str, eV_bool, eV_nn, eV_np, eV_pn, eV_snn, eV_sns, eV_ssn, eV_mnn, eV_mnm, eV_mmn, eV_fnn, eV_fnf, eV_ffn, eV_agg, rP_load, rP_lenNil, rP_str0, rdEl_K, rdK_row, aP_alloc, aP_box, aP_buildSlice, aP_makeSlice, aP_makeMap, aP_toBytes, hP_store, storeK_some, st_K, stK_row, stE_some, cells_agg, cells_bool, scalar_bool, cells_int, scalar_int, cells_str, scalar_str, cells_nilptr, scalar_nilptr, cells_ptr, scalar_ptr, cells_nilslice, scalar_nilslice, cells_slice, scalar_slice, cells_nilmap, scalar_nilmap, cells_map, scalar_map, cells_nilfunc, scalar_nilfunc, cells_func, scalar_func, eqCells, eqLeaf, run_toL, toL_some, ev_toL, getD_toL, put_toL, keep_toL, asc, fput_same, fput_ne, fbase_nil, fbase_cons, fkeep_nil, fkeep_cons, fzero, fnone, List.map_cons, List.map_nil, ev_lit, put_none, resVals, resVal, resOf, partV, fillA, putCells, fillEls, strBin, minV, optNat, appendEls, elsOf, sliceSlV, sliceStrV, List.replicate, List.getElem?_append_left, List.getElem?_append_right, List.set_append_left, List.set_append_right, List.getElem?_set_self, List.getElem?_set_ne, hq_get0, hq_get, hq_get2, hq_get3, hp_get0, hp_get, hp_get2, hp_get3, hp_set0, hp_set, hp_set2, hp_set3, wr_0, wr_1, wr_2, wr_3, wr_4, wr_n1, f0, f1, f2, f7, f8, f9, f10, f12, d0, d1, sv.1, sv.2, su, su2]
      exact hQ' _ (hQ _ _ B vb dv D l rfl rfl rfl rfl rfl rfl rfl w b hl h4 h5 h6 hv ou od (by omega) hup tB)
theorem Tm.sub {t : Nat} {A A' : Ls} (h : Tm t A) (hn : A'.now = A.now) (hw : ∀ w ∈ A'.waits, w ∈ A.waits) : Tm t A' :=
  ⟨hn.trans h.now, fun w hm => h.at0 w (hw w hm), fun h4 => by
    cases hA : A'.waits with
    | nil => rfl
    | cons a l => have := hw a (by rw [hA]; simp); rw [h.rest h4] at this; cases this⟩
set_option maxHeartbeats 32000000 in
/-- The third loop: whatever is delivered. -/
theorem rand_loop {lvs : List Nat} {body : SCode} (hb : (loopsAll sf9.body)[2]? = some (lvs, body)) {n m : Nat} (hn : n ≤ 20) (hm : m ≤ 20) {ga ma gb mb : Nat} {kk : H} {A0 B0 : Ls} {va0 vb0 v uv dv : AV} {U D : List Pk} {xs : List Int} {l0 : List (List Nat)} {f : Nat → AV} (hxs : xs.length ≤ 100)
    (w0 : Wd kk l0 ga ma gb mb va0 vb0 .nilslice .nilslice A0 B0 [] []) (b0 : Bo xk yk 1 2 n m A0 B0 [] [] 0 0 0 0) (hl0 : l0.length = 7) (h4 : l0.getD 4 [] = foot uv) (h5 : l0.getD 5 [] = foot dv) (h6 : l0.getD 6 [] = sfoot v (ints xs)) (hv : SlOf kk 1 v (ints xs)) (ou : Own kk 25 uv (pks U)) (od : Own kk 25 dv (pks D))
    (hU : U.length ≤ n) (hD : D.length ≤ m) (upU : Ups 1 2 xk n U) (upD : Ups 2 1 yk m D) (tA : Tm 0 A0) (tB : Tm 0 B0)
    (f0 : f 0 = .int .i64 (n : Nat)) (f1 : f 1 = .int .i64 (m : Nat)) (f7 : f 7 = .ptr ga 0 0) (f8 : f 8 = .ptr gb 0 0) (f9 : f 9 = uv) (f10 : f 10 = dv) (f13 : f 13 = .nilslice) (f14 : f 14 = .nilslice) (f92 : f 92 = v) (f93 : f 93 = .int .i64 xs.length) (f94 : f 94 = .int .i64 0) {Q : (Ex × Env) × H → Prop}
    (hQ : ∀ (f' : Nat → AV) (k' : H) (A B : Ls) (R L : List Lt) (ca cb qa qb : Nat) (va vb rv lv : AV) (l : List (List Nat)), f' 0 = .int .i64 (n : Nat) → f' 1 = .int .i64 (m : Nat) → f' 7 = .ptr ga 0 0 → f' 8 = .ptr gb 0 0 → f' 13 = lv → f' 14 = rv →
      Wd k' l ga ma gb mb va vb rv lv A B R L → Bo xk yk 1 2 n m A B R L ca cb qa qb → Tm 0 A → Tm 0 B → Q ((.exit 4, toL 261 f'), k')) :
    Yld (itw (fun env => exec (call fs2 ex2) itw body (keepFrom lvs 0 env)) (toL 261 f) kk) Q := by
  simp [sf9, loopsAll] at hb
  obtain ⟨rfl, rfl⟩ := hb
  have sv : v.cells = some [v] ∧ v.scalar = true := slOf_cells hv
  have su := ou.cells
  have su2 := ou.scalar
  have sd := od.cells
  have sd2 := od.scalar
  refine yld_rounds (fun z e k => ∃ (f : Nat → AV) (i : Nat) (A B : Ls) (R L : List Lt) (ca cb qa qb : Nat) (va vb rv lv : AV) (l : List (List Nat)), e = toL 261 f ∧ z = xs.length - i ∧ i ≤ xs.length ∧ Wd k l ga ma gb mb va vb rv lv A B R L ∧ Bo xk yk 1 2 n m A B R L ca cb qa qb ∧ l.length = 7 ∧ l.getD 4 [] = foot uv ∧ l.getD 5 [] = foot dv ∧ l.getD 6 [] = sfoot v (ints xs) ∧ SlOf k 1 v (ints xs) ∧
    Own k 25 uv (pks U) ∧ Own k 25 dv (pks D) ∧ Tm 0 A ∧ Tm 0 B ∧ f 0 = .int .i64 (n : Nat) ∧ f 1 = .int .i64 (m : Nat) ∧ f 7 = .ptr ga 0 0 ∧ f 8 = .ptr gb 0 0 ∧ f 9 = uv ∧ f 10 = dv ∧ f 13 = lv ∧ f 14 = rv ∧ f 92 = v ∧ f 93 = .int .i64 xs.length ∧ f 94 = .int .i64 (i : Nat)) (xs.length - 0) ?_ ?_
  · exact ⟨f, 0, A0, B0, [], [], 0, 0, 0, 0, va0, vb0, .nilslice, .nilslice, l0, rfl, rfl, Nat.zero_le _, w0, b0, hl0, h4, h5, h6, hv, ou, od, tA, tB, f0, f1, f7, f8, f9, f10, f13, f14, f92, f93, f94⟩
  · clear f0 f1 f7 f8 f9 f10 f13 f14 f92 f93 f94 w0 b0 hv h4 h5 h6 ou od tA tB
    rintro J Q' hJ hQ' z e k ⟨f, i, A, B, R, L, ca, cb, qa, qb, va, vb, rv, lv, l, rfl, rfl, hi, w, b, hl, h4, h5, h6, hv, ou, od, tA, tB, f0, f1, f7, f8, f9, f10, f13, f14, f92, f93, f94⟩
    have lu := own_len ou
    have ld := own_len od
    have plU : (pks U).length = U.length := by simp [pks]
    have plD : (pks D).length = D.length := by simp [pks]
    rw [plU] at lu
    rw [plD] at ld
    have sr := w.r.cells
    have sr2 := w.r.scalar
    have sl := w.l.cells
    have sl2 := w.l.scalar
    by_cases hil : i < xs.length
    · have d0 : decide ((i : Int) < ((xs.length : Nat) : Int)) = true := dec_true (by omega)
      have s5 := add_one (i := i) (by omega)
      obtain ⟨pb, ip, gp⟩ := sl_idx hv (i := i) (by rw [ints_len]; exact hil)
      rw [ints_get] at gp
      generalize xs[i] = a at gp
      have keepN : ∀ {k3 : H} {G : List Nat}, Chg k k3 G → (∀ i, 4 ≤ i → ∀ c ∈ l.getD i [], c ∉ G) → SlOf k3 1 v (ints xs) ∧ Own k3 25 uv (pks U) ∧ Own k3 25 dv (pks D) := fun c h =>
        ⟨sl_keep hv c (by rw [← h6]; exact h 6 (by omega)), ou.keep c (by rw [← h4]; exact h 4 (by omega)), od.keep c (by rw [← h5]; exact h 5 (by omega))⟩
      have fin0 : ∀ f', f' 0 = .int .i64 (n : Nat) → f' 1 = .int .i64 (m : Nat) → f' 7 = .ptr ga 0 0 → f' 8 = .ptr gb 0 0 → f' 9 = uv → f' 10 = dv → f' 13 = lv → f' 14 = rv → f' 92 = v → f' 93 = .int .i64 xs.length → f' 94 = .int .i64 ((i + 1 : Nat) : Int) → ∃ z, z < xs.length - i ∧ J z (toL 261 f') k :=
        fun f' q0 q1 q7 q8 q9 q10 q13 q14 q92 q93 q94 => ⟨xs.length - (i + 1), by omega, hJ _ _ _ ⟨f', i + 1, A, B, R, L, ca, cb, qa, qb, va, vb, rv, lv, l, rfl, rfl, hil, w, b, hl, h4, h5, h6, hv, ou, od, tA, tB, q0, q1, q7, q8, q9, q10, q13, q14, q92, q93, q94⟩⟩
      rcases and_one a with s0 | s0
      · by_cases hU0 : 0 < U.length
        · have d1 : decide ((0 : Int) < (U.length : Nat)) = true := dec_true (by omega)
          obtain ⟨y1, r1, r2, j, s1, s2, s3, s4, hj⟩ := turn a 1 U.length hU0 (by omega)
          have s1 : binV .shr (.int .i64 a) (.int .u64 1) = some (.int .i64 y1) := s1
          obtain ⟨ub, iu, gu⟩ := own_idx ou (i := j) (by rw [plU]; exact hj)
          rw [pks_get] at gu
          obtain ⟨jj, q1, q2, q3⟩ := upU U[j] (List.getElem_mem _)
          rw [q3] at gu
          obtain ⟨vo, k1, ack, rv', k2, vo2, k3, va', vb', A', B', cb', o, l', e1, e2, e3, e4, w2, b2, e5, e6, e7, e8, e9, e10, e11, e12, e13, e14⟩ := w.up b (by omega) (by omega) q1 q2 (Nat.zero_le _)
          obtain ⟨hv2, ou2, od2⟩ := keepN e14 e13
          have fin : ∀ f', f' 0 = .int .i64 (n : Nat) → f' 1 = .int .i64 (m : Nat) → f' 7 = .ptr ga 0 0 → f' 8 = .ptr gb 0 0 → f' 9 = uv → f' 10 = dv → f' 13 = lv → f' 14 = rv' → f' 92 = v → f' 93 = .int .i64 xs.length → f' 94 = .int .i64 ((i + 1 : Nat) : Int) → ∃ z, z < xs.length - i ∧ J z (toL 261 f') k3 :=
            fun f' q0 q1 q7 q8 q9 q10 q13 q14 q92 q93 q94 => ⟨xs.length - (i + 1), by omega, hJ _ _ _ ⟨f', i + 1, A', B', R ++ o, L, ca, cb', _, _, va', vb', rv', lv, l', rfl, rfl, hil, w2, b2, e12.trans hl, (e11 4 (by omega)).trans h4, (e11 5 (by omega)).trans h5, (e11 6 (by omega)).trans h6, hv2, ou2, od2, tA.sub e7 e9, tB.sub e8 e10, q0, q1, q7, q8, q9, q10, q13, q14, q92, q93, q94⟩⟩
          simp only [Pk.av, Int.natCast_zero] at gu e1 e2 e3 e4
          simp [yld_some, exec_reg, exec_dreg, exec_seq, exec_cond, exec_block, exec_scope, exec_exit, exec_ret, exec_skip, exec_loop, ops_nil, ops_cons, ops_cons_gd, stages_nil, stages_cons_n, stages_cons_h, recheck, wantsOp, AV.same, sames, evalOp_p, evalOp_r, evalOp_a, evalOp_call, evalOp_callV, evalOp_store, evalOp_append, evalOp_clear, evalOp_mapUpdate, evalOp_delete, pP_move, pP_pick, pP_build, pP_nil_ptr, pP_nil_func, pP_bin, pP_eq, pP_neg, pP_inv, pP_not, pP_convInt, pP_convStr, pP_fieldAddr, pP_field, pP_indexAddr, pP_indexStr, pP_sliceStr, pP_sliceSl, pP_lenStr, pP_lenNil, pP_lenSl, pP_min, pP_max, pP_extract, pP_mkfn, bV_sub, bV_mul, bV_quo, bV_or, bV_xor, bV_andNot, bV_eql, bV_neq, bV_lss, bV_leq, bV_gtr, bV_geq, bV_shl, bV_str, eV_bool, eV_nn, eV_np, eV_pn, eV_snn, eV_sns, eV_ssn, eV_mnn, eV_mnm, eV_mmn, eV_fnn, eV_fnf, eV_ffn, eV_agg, rP_load, rP_lenNil, rP_str0, rdEl_K, rdK_row, aP_alloc, aP_box, aP_buildSlice, aP_makeSlice, aP_makeMap, aP_toBytes, hP_store, storeK_some, st_K, stK_row, stE_some, cells_agg, cells_bool, scalar_bool, cells_int, scalar_int, cells_str, scalar_str, cells_nilptr, scalar_nilptr, cells_ptr, scalar_ptr, cells_nilslice, scalar_nilslice, cells_slice, scalar_slice, cells_nilmap, scalar_nilmap, cells_map, scalar_map, cells_nilfunc, scalar_nilfunc, cells_func, scalar_func, eqCells, eqLeaf, run_toL, toL_some, ev_toL, getD_toL, put_toL, keep_toL, asc, fput_same, fput_ne, fbase_nil, fbase_cons, fkeep_nil, fkeep_cons, fzero, fnone, List.map_cons, List.map_nil, ev_lit, put_none, resVals, resVal, resOf, partV, fillA, putCells, fillEls, strBin, minV, optNat, appendEls, elsOf, sliceSlV, sliceStrV, List.replicate, List.getElem?_append_left, List.getElem?_append_right, List.set_append_left, List.set_append_right, List.getElem?_set_self, List.getElem?_set_ne, f0, f1, f7, f8, f9, f10, f13, f14, f92, f93, f94, d0, hil, ip, gp, s0, s1, s2, s3, s4, s5, lu, ld, d1, hU0, iu, gu, e1, e2, e3, get_app e3, set_app e3, get_set_same e3, get_set_app e3, set_set_app e3, len_beq e3, beq_len e3, e4, sv.1, sv.2, su, su2, sd, sd2, sr, sr2, sl, sl2]
          exact fin _ rfl rfl rfl rfl rfl rfl rfl rfl rfl rfl rfl
        · have d1 : decide ((0 : Int) < (U.length : Nat)) = false := dec_false (by omega)
          simp [yld_some, exec_reg, exec_dreg, exec_seq, exec_cond, exec_block, exec_scope, exec_exit, exec_ret, exec_skip, exec_loop, ops_nil, ops_cons, ops_cons_gd, stages_nil, stages_cons_n, stages_cons_h, recheck, wantsOp, AV.same, sames, evalOp_p, evalOp_r, evalOp_a, evalOp_call, evalOp_callV, evalOp_store, evalOp_append, evalOp_clear, evalOp_mapUpdate, evalOp_delete, pP_move, pP_pick, pP_build, pP_nil_ptr, pP_nil_func, pP_bin, pP_eq, pP_neg, pP_inv, pP_not, pP_convInt, pP_convStr, pP_fieldAddr, pP_field, pP_indexAddr, pP_indexStr, pP_sliceStr, pP_sliceSl, pP_lenStr, pP_lenNil, pP_lenSl, pP_min, pP_max, pP_extract, pP_mkfn, bV_sub, bV_mul, bV_quo, bV_or, bV_xor, bV_andNot, bV_eql, bV_neq, bV_lss, bV_leq, bV_gtr, bV_geq, bV_shl, bV_str, eV_bool, eV_nn, eV_np, eV_pn, eV_snn, eV_sns, eV_ssn, eV_mnn, eV_mnm, eV_mmn, eV_fnn, eV_fnf, eV_ffn, eV_agg, rP_load, rP_lenNil, rP_str0, rdEl_K, rdK_row, aP_alloc, aP_box, aP_buildSlice, aP_makeSlice, aP_makeMap, aP_toBytes, hP_store, storeK_some, st_K, stK_row, stE_some, cells_agg, cells_bool, scalar_bool, cells_int, scalar_int, cells_str, scalar_str, cells_nilptr, scalar_nilptr, cells_ptr, scalar_ptr, cells_nilslice, scalar_nilslice, cells_slice, scalar_slice, cells_nilmap, scalar_nilmap, cells_map, scalar_map, cells_nilfunc, scalar_nilfunc, cells_func, scalar_func, eqCells, eqLeaf, run_toL, toL_some, ev_toL, getD_toL, put_toL, keep_toL, asc, fput_same, fput_ne, fbase_nil, fbase_cons, fkeep_nil, fkeep_cons, fzero, fnone, List.map_cons, List.map_nil, ev_lit, put_none, resVals, resVal, resOf, partV, fillA, putCells, fillEls, strBin, minV, optNat, appendEls, elsOf, sliceSlV, sliceStrV, List.replicate, List.getElem?_append_left, List.getElem?_append_right, List.set_append_left, List.set_append_right, List.getElem?_set_self, List.getElem?_set_ne, f0, f1, f7, f8, f9, f10, f13, f14, f92, f93, f94, d0, hil, ip, gp, s0, s5, lu, ld, d1, hU0, sv.1, sv.2, su, su2, sd, sd2, sr, sr2, sl, sl2]
          exact fin0 _ rfl rfl rfl rfl rfl rfl rfl rfl rfl rfl rfl
      · by_cases hD0 : 0 < D.length
        · have d1 : decide ((0 : Int) < (D.length : Nat)) = true := dec_true (by omega)
          obtain ⟨y1, r1, r2, j, s1, s2, s3, s4, hj⟩ := turn a 1 D.length hD0 (by omega)
          have s1 : binV .shr (.int .i64 a) (.int .u64 1) = some (.int .i64 y1) := s1
          obtain ⟨ub, iu, gu⟩ := own_idx od (i := j) (by rw [plD]; exact hj)
          rw [pks_get] at gu
          obtain ⟨jj, q1, q2, q3⟩ := upD D[j] (List.getElem_mem _)
          rw [q3] at gu
          obtain ⟨vo, k1, ack, lv', k2, vo2, k3, va', vb', A', B', ca', o, l', e1, e2, e3, e4, w2, b2, e5, e6, e7, e8, e9, e10, e11, e12, e13, e14⟩ := w.down b (by omega) (by omega) q1 q2 (Nat.zero_le _)
          obtain ⟨hv2, ou2, od2⟩ := keepN e14 e13
          have fin : ∀ f', f' 0 = .int .i64 (n : Nat) → f' 1 = .int .i64 (m : Nat) → f' 7 = .ptr ga 0 0 → f' 8 = .ptr gb 0 0 → f' 9 = uv → f' 10 = dv → f' 13 = lv' → f' 14 = rv → f' 92 = v → f' 93 = .int .i64 xs.length → f' 94 = .int .i64 ((i + 1 : Nat) : Int) → ∃ z, z < xs.length - i ∧ J z (toL 261 f') k3 :=
            fun f' q0 q1 q7 q8 q9 q10 q13 q14 q92 q93 q94 => ⟨xs.length - (i + 1), by omega, hJ _ _ _ ⟨f', i + 1, A', B', R, L ++ o, ca', cb, _, _, va', vb', rv, lv', l', rfl, rfl, hil, w2, b2, e12.trans hl, (e11 4 (by omega)).trans h4, (e11 5 (by omega)).trans h5, (e11 6 (by omega)).trans h6, hv2, ou2, od2, tA.sub e7 e9, tB.sub e8 e10, q0, q1, q7, q8, q9, q10, q13, q14, q92, q93, q94⟩⟩
          simp only [Pk.av, Int.natCast_zero] at gu e1 e2 e3 e4
          simp [yld_some, exec_reg, exec_dreg, exec_seq, exec_cond, exec_block, exec_scope, exec_exit, exec_ret, exec_skip, exec_loop, ops_nil, ops_cons, ops_cons_gd, stages_nil, stages_cons_n, stages_cons_h, recheck, wantsOp, AV.same, sames, evalOp_p, evalOp_r, evalOp_a, evalOp_call, evalOp_callV, evalOp_store, evalOp_append, evalOp_clear, evalOp_mapUpdate, evalOp_delete, pP_move, pP_pick, pP_build, pP_nil_ptr, pP_nil_func, pP_bin, pP_eq, pP_neg, pP_inv, pP_not, pP_convInt, pP_convStr, pP_fieldAddr, pP_field, pP_indexAddr, pP_indexStr, pP_sliceStr, pP_sliceSl, pP_lenStr, pP_lenNil, pP_lenSl, pP_min, pP_max, pP_extract, pP_mkfn, bV_sub, bV_mul, bV_quo, bV_or, bV_xor, bV_andNot, bV_eql, bV_neq, bV_lss, bV_leq, bV_gtr, bV_geq, bV_shl, bV_str, eV_bool, eV_nn, eV_np, eV_pn, eV_snn, eV_sns, eV_ssn, eV_mnn, eV_mnm, eV_mmn, eV_fnn, eV_fnf, eV_ffn, eV_agg, rP_load, rP_lenNil, rP_str0, rdEl_K, rdK_row, aP_alloc, aP_box, aP_buildSlice, aP_makeSlice, aP_makeMap, aP_toBytes, hP_store, storeK_some, st_K, stK_row, stE_some, cells_agg, cells_bool, scalar_bool, cells_int, scalar_int, cells_str, scalar_str, cells_nilptr, scalar_nilptr, cells_ptr, scalar_ptr, cells_nilslice, scalar_nilslice, cells_slice, scalar_slice, cells_nilmap, scalar_nilmap, cells_map, scalar_map, cells_nilfunc, scalar_nilfunc, cells_func, scalar_func, eqCells, eqLeaf, run_toL, toL_some, ev_toL, getD_toL, put_toL, keep_toL, asc, fput_same, fput_ne, fbase_nil, fbase_cons, fkeep_nil, fkeep_cons, fzero, fnone, List.map_cons, List.map_nil, ev_lit, put_none, resVals, resVal, resOf, partV, fillA, putCells, fillEls, strBin, minV, optNat, appendEls, elsOf, sliceSlV, sliceStrV, List.replicate, List.getElem?_append_left, List.getElem?_append_right, List.set_append_left, List.set_append_right, List.getElem?_set_self, List.getElem?_set_ne, f0, f1, f7, f8, f9, f10, f13, f14, f92, f93, f94, d0, hil, ip, gp, s0, s1, s2, s3, s4, s5, lu, ld, d1, hD0, iu, gu, e1, e2, e3, get_app e3, set_app e3, get_set_same e3, get_set_app e3, set_set_app e3, len_beq e3, beq_len e3, e4, sv.1, sv.2, su, su2, sd, sd2, sr, sr2, sl, sl2]
          exact fin _ rfl rfl rfl rfl rfl rfl rfl rfl rfl rfl rfl
        · have d1 : decide ((0 : Int) < (D.length : Nat)) = false := dec_false (by omega)
          simp [yld_some, exec_reg, exec_dreg, exec_seq, exec_cond, exec_block, exec_scope, exec_exit, exec_ret, exec_skip, exec_loop, ops_nil, ops_cons, ops_cons_gd, stages_nil, stages_cons_n, stages_cons_h, recheck, wantsOp, AV.same, sames, evalOp_p, evalOp_r, evalOp_a, evalOp_call, evalOp_callV, evalOp_store, evalOp_append, evalOp_clear, evalOp_mapUpdate, evalOp_delete, pP_move, pP_pick, pP_build, pP_nil_ptr, pP_nil_func, pP_bin, pP_eq, pP_neg, pP_inv, pP_not, pP_convInt, pP_convStr, pP_fieldAddr, pP_field, pP_indexAddr, pP_indexStr, pP_sliceStr, pP_sliceSl, pP_lenStr, pP_lenNil, pP_lenSl, pP_min, pP_max, pP_extract, pP_mkfn, bV_sub, bV_mul, bV_quo, bV_or, bV_xor, bV_andNot, bV_eql, bV_neq, bV_lss, bV_leq, bV_gtr, bV_geq, bV_shl, bV_str, eV_bool, eV_nn, eV_np, eV_pn, eV_snn, eV_sns, eV_ssn, eV_mnn, eV_mnm, eV_mmn, eV_fnn, eV_fnf, eV_ffn, eV_agg, rP_load, rP_lenNil, rP_str0, rdEl_K, rdK_row, aP_alloc, aP_box, aP_buildSlice, aP_makeSlice, aP_makeMap, aP_toBytes, hP_store, storeK_some, st_K, stK_row, stE_some, cells_agg, cells_bool, scalar_bool, cells_int, scalar_int, cells_str, scalar_str, cells_nilptr, scalar_nilptr, cells_ptr, scalar_ptr, cells_nilslice, scalar_nilslice, cells_slice, scalar_slice, cells_nilmap, scalar_nilmap, cells_map, scalar_map, cells_nilfunc, scalar_nilfunc, cells_func, scalar_func, eqCells, eqLeaf, run_toL, toL_some, ev_toL, getD_toL, put_toL, keep_toL, asc, fput_same, fput_ne, fbase_nil, fbase_cons, fkeep_nil, fkeep_cons, fzero, fnone, List.map_cons, List.map_nil, ev_lit, put_none, resVals, resVal, resOf, partV, fillA, putCells, fillEls, strBin, minV, optNat, appendEls, elsOf, sliceSlV, sliceStrV, List.replicate, List.getElem?_append_left, List.getElem?_append_right, List.set_append_left, List.set_append_right, List.getElem?_set_self, List.getElem?_set_ne, f0, f1, f7, f8, f9, f10, f13, f14, f92, f93, f94, d0, hil, ip, gp, s0, s5, lu, ld, d1, hD0, sv.1, sv.2, su, su2, sd, sd2, sr, sr2, sl, sl2]
          exact fin0 _ rfl rfl rfl rfl rfl rfl rfl rfl rfl rfl rfl
    · have hin : i = xs.length := by omega
      subst hin
      have d0 : decide ((xs.length : Int) < ((xs.length : Nat) : Int)) = false := dec_false (by omega)
      simp [yld_some, exec_reg, exec_dreg, exec_seq, exec_cond, exec_block, exec_scope, exec_exit, exec_ret, exec_skip, exec_loop, ops_nil, ops_cons, ops_cons_gd, stages_nil, stages_cons_n, stages_cons_h, recheck, wantsOp, AV.same, sames, evalOp_p, evalOp_r, evalOp_a, evalOp_call, evalOp_callV, evalOp_store, evalOp_append, evalOp_clear, evalOp_mapUpdate, evalOp_delete, pP_move, pP_pick, pP_build, pP_nil_ptr, pP_nil_func, pP_bin, pP_eq, pP_neg, pP_inv, pP_not, pP_convInt, pP_convStr, pP_fieldAddr, pP_field, pP_indexAddr, pP_indexStr, pP_sliceStr, pP_sliceSl, pP_lenStr, pP_lenNil, pP_lenSl, pP_min, pP_max, pP_extract, pP_mkfn, bV_add, bV_sub, bV_mul, bV_quo, bV_rem, bV_and, bV_or, bV_xor, bV_andNot, bV_eql, bV_neq, bV_lss, bV_leq, bV_gtr, bV_geq, bV_shl, bV_shr, bV_str, eV_bool, eV_nn, eV_np, eV_pn, eV_snn, eV_sns, eV_ssn, eV_mnn, eV_mnm, eV_mmn, eV_fnn, eV_fnf, eV_ffn, eV_agg, rP_load, rP_lenNil, rP_str0, rdEl_K, rdK_row, aP_alloc, aP_box, aP_buildSlice, aP_makeSlice, aP_makeMap, aP_toBytes, hP_store, storeK_some, st_K, stK_row, stE_some, cells_agg, cells_bool, scalar_bool, cells_int, scalar_int, cells_str, scalar_str, cells_nilptr, scalar_nilptr, cells_ptr, scalar_ptr, cells_nilslice, scalar_nilslice, cells_slice, scalar_slice, cells_nilmap, scalar_nilmap, cells_map, scalar_map, cells_nilfunc, scalar_nilfunc, cells_func, scalar_func, eqCells, eqLeaf, run_toL, toL_some, ev_toL, getD_toL, put_toL, keep_toL, asc, fput_same, fput_ne, fbase_nil, fbase_cons, fkeep_nil, fkeep_cons, fzero, fnone, List.map_cons, List.map_nil, ev_lit, put_none, resVals, resVal, resOf, partV, fillA, putCells, fillEls, strBin, minV, optNat, appendEls, elsOf, sliceSlV, sliceStrV, List.replicate, List.getElem?_append_left, List.getElem?_append_right, List.set_append_left, List.set_append_right, List.getElem?_set_self, List.getElem?_set_ne, hq_get0, hq_get, hq_get2, hq_get3, hp_get0, hp_get, hp_get2, hp_get3, hp_set0, hp_set, hp_set2, hp_set3, wr_0, wr_1, wr_2, wr_3, wr_4, wr_n1, f0, f1, f7, f8, f9, f10, f13, f14, f92, f93, f94, d0]
      exact hQ' _ (hQ _ _ A B R L ca cb qa qb va vb rv lv l rfl rfl rfl rfl rfl rfl w b tA tB)
set_option maxHeartbeats 32000000 in
/-- The fourth loop: time goes on. -/
theorem tick_loop {lvs : List Nat} {body : SCode} (hb : (loopsAll sf9.body)[3]? = some (lvs, body)) {n m : Nat} (hn : n ≤ 20) (hm : m ≤ 20) {ga ma gb mb : Nat} {kk : H} {A0 B0 : Ls} {R0 L0 : List Lt} {ca0 cb0 qa0 qb0 : Nat} {va0 vb0 rv0 lv0 : AV} {l0 : List (List Nat)} {f : Nat → AV}
    (w0 : Wd kk l0 ga ma gb mb va0 vb0 rv0 lv0 A0 B0 R0 L0) (b0 : Bo xk yk 1 2 n m A0 B0 R0 L0 ca0 cb0 qa0 qb0) (hl0 : l0.length = 4) (tA0 : Tm 0 A0) (tB0 : Tm 0 B0)
    (f0 : f 0 = .int .i64 (n : Nat)) (f1 : f 1 = .int .i64 (m : Nat)) (f7 : f 7 = .ptr ga 0 0) (f8 : f 8 = .ptr gb 0 0) (f13 : f 13 = lv0) (f14 : f 14 = rv0) (f23 : f 23 = .int .i64 0) {Q : (Ex × Env) × H → Prop}
    (hQ : ∀ (f' : Nat → AV) (k' : H) (A B : Ls) (R L : List Lt) (ca cb qa qb : Nat) (va vb rv lv : AV) (l : List (List Nat)), f' 0 = .int .i64 (n : Nat) → f' 1 = .int .i64 (m : Nat) → f' 7 = .ptr ga 0 0 → f' 8 = .ptr gb 0 0 → f' 13 = lv → f' 14 = rv →
      Wd k' l ga ma gb mb va vb rv lv A B R L → Bo xk yk 1 2 n m A B R L ca cb qa qb → A.waits = [] → B.waits = [] → Q ((.exit 6, toL 261 f'), k')) :
    Yld (itw (fun env => exec (call fs2 ex2) itw body (keepFrom lvs 0 env)) (toL 261 f) kk) Q := by
  simp [sf9, loopsAll] at hb
  obtain ⟨rfl, rfl⟩ := hb
  refine yld_rounds (fun z e k => ∃ (f : Nat → AV) (t : Nat) (A B : Ls) (R L : List Lt) (ca cb qa qb : Nat) (va vb rv lv : AV) (l : List (List Nat)), e = toL 261 f ∧ z = 12 - t ∧ t ≤ 12 ∧ Wd k l ga ma gb mb va vb rv lv A B R L ∧ Bo xk yk 1 2 n m A B R L ca cb qa qb ∧ l.length = 4 ∧ Tm t A ∧ Tm t B ∧
    f 0 = .int .i64 (n : Nat) ∧ f 1 = .int .i64 (m : Nat) ∧ f 7 = .ptr ga 0 0 ∧ f 8 = .ptr gb 0 0 ∧ f 13 = lv ∧ f 14 = rv ∧ f 23 = .int .i64 (t : Nat)) (12 - 0) ?_ ?_
  · exact ⟨f, 0, A0, B0, R0, L0, ca0, cb0, qa0, qb0, va0, vb0, rv0, lv0, l0, rfl, rfl, Nat.zero_le _, w0, b0, hl0, tA0, tB0, f0, f1, f7, f8, f13, f14, f23⟩
  · clear f0 f1 f7 f8 f13 f14 f23 w0 b0 tA0 tB0
    rintro J Q' hJ hQ' z e k ⟨f, t, A, B, R, L, ca, cb, qa, qb, va, vb, rv, lv, l, rfl, rfl, hi, w, b, hl, tA, tB, f0, f1, f7, f8, f13, f14, f23⟩
    have sr := w.r.cells
    have sr2 := w.r.scalar
    have sl := w.l.cells
    have sl2 := w.l.scalar
    by_cases hil : t < 12
    · have d0 : decide ((t : Int) < 12) = true := dec_true (by omega)
      have hwi : IntKind.i64.wrap ((t : Int) + 1) = ((t + 1 : Nat) : Int) := wrap_i64 (by omega) (by omega)
      obtain ⟨ag, N, q, k1, A1, e19, w1, b1, o1, h1, h2, h3, h4, h5⟩ := tickA w hl b (by omega) (by omega) tA (by omega)
      have la := own_len o1
      have sa := o1.cells
      have sa2 := o1.scalar
      have : (pks (agn xk 1 2 N q ca)).length = N - q := by simp [pks, agn_len]
      rw [this] at la
      simp [yld_some, exec_reg, exec_dreg, exec_seq, exec_cond, exec_block, exec_scope, exec_exit, exec_ret, exec_skip, exec_loop, ops_nil, ops_cons, ops_cons_gd, stages_nil, stages_cons_n, stages_cons_h, recheck, wantsOp, AV.same, sames, evalOp_p, evalOp_r, evalOp_a, evalOp_call, evalOp_callV, evalOp_store, evalOp_append, evalOp_clear, evalOp_mapUpdate, evalOp_delete, pP_move, pP_pick, pP_build, pP_nil_ptr, pP_nil_func, pP_bin, pP_eq, pP_neg, pP_inv, pP_not, pP_convInt, pP_convStr, pP_fieldAddr, pP_field, pP_indexAddr, pP_indexStr, pP_sliceStr, pP_sliceSl, pP_lenStr, pP_lenNil, pP_lenSl, pP_min, pP_max, pP_extract, pP_mkfn, bV_add, bV_sub, bV_mul, bV_quo, bV_rem, bV_and, bV_or, bV_xor, bV_andNot, bV_eql, bV_neq, bV_lss, bV_leq, bV_gtr, bV_geq, bV_shl, bV_shr, bV_str, eV_bool, eV_nn, eV_np, eV_pn, eV_snn, eV_sns, eV_ssn, eV_mnn, eV_mnm, eV_mmn, eV_fnn, eV_fnf, eV_ffn, eV_agg, rP_load, rP_lenNil, rP_str0, rdEl_K, rdK_row, aP_alloc, aP_box, aP_buildSlice, aP_makeSlice, aP_makeMap, aP_toBytes, hP_store, storeK_some, st_K, stK_row, stE_some, cells_agg, cells_bool, scalar_bool, cells_int, scalar_int, cells_str, scalar_str, cells_nilptr, scalar_nilptr, cells_ptr, scalar_ptr, cells_nilslice, scalar_nilslice, cells_slice, scalar_slice, cells_nilmap, scalar_nilmap, cells_map, scalar_map, cells_nilfunc, scalar_nilfunc, cells_func, scalar_func, eqCells, eqLeaf, run_toL, toL_some, ev_toL, getD_toL, put_toL, keep_toL, asc, fput_same, fput_ne, fbase_nil, fbase_cons, fkeep_nil, fkeep_cons, fzero, fnone, List.map_cons, List.map_nil, ev_lit, put_none, resVals, resVal, resOf, partV, fillA, putCells, fillEls, strBin, minV, optNat, appendEls, elsOf, sliceSlV, sliceStrV, List.replicate, List.getElem?_append_left, List.getElem?_append_right, List.set_append_left, List.set_append_right, List.getElem?_set_self, List.getElem?_set_ne, hq_get0, hq_get, hq_get2, hq_get3, hp_get0, hp_get, hp_get2, hp_get3, hp_set0, hp_set, hp_set2, hp_set3, wr_0, wr_1, wr_2, wr_3, wr_4, wr_n1, f0, f1, f7, f8, f13, f14, f23, d0, hil, e19, la, sr, sr2, sl, sl2, sa, sa2]
      repeat (first | apply yld_endFn | apply yld_seqK | apply yld_blockK | apply yld_regK | apply yld_opsK | apply yld_putK | apply yld_stgK | apply yld_chkK)
      refine up_loop (by simp [sf9, loopsAll]) (t := t) hn hm w1 b1 (by simp [hl]) (by rw [← hl]; exact getD_last _ _) o1 h4 h3 h1 h2 (by rfl) (by rfl) (by rfl) (by rfl) (by rfl) (by rfl) (by rfl) (by rfl) (by rfl) (by rfl) ?_
      intro f' k' A2 B2 R2 cb2 qa2 qb2 va2 vb2 rv2 l2 f0 f1 f7 f8 f13 f14 f23 w2 b2 g1 g2 g3 g4 g5 g6 g7
      have tA2 := h5 A2 B2 R2 cb2 qa2 qb2 b2 g1 g2 g3 g4 g6
      have tB2 := tB.sub g5 g7
      have w3 := w2.cut
      have hl3 : (l2.take 4).length = 4 := by have := w2.len; simp; omega
      obtain ⟨ag2, N2, q2, k3, B3, e19', w4, b4, o4, h1, h2, h3, h4, h5'⟩ := tickB w3 hl3 b2 (by omega) (by omega) tB2 (by omega)
      have la2 := own_len o4
      have sa3 := o4.cells
      have sa4 := o4.scalar
      have : (pks (agn yk 2 1 N2 q2 cb2)).length = N2 - q2 := by simp [pks, agn_len]
      rw [this] at la2
      have sr := w4.r.cells
      have sr2 := w4.r.scalar
      have sl := w4.l.cells
      have sl2 := w4.l.scalar
      simp [yld_some, exec_reg, exec_dreg, exec_seq, exec_cond, exec_block, exec_scope, exec_exit, exec_ret, exec_skip, exec_loop, ops_nil, ops_cons, ops_cons_gd, stages_nil, stages_cons_n, stages_cons_h, recheck, wantsOp, AV.same, sames, evalOp_p, evalOp_r, evalOp_a, evalOp_call, evalOp_callV, evalOp_store, evalOp_append, evalOp_clear, evalOp_mapUpdate, evalOp_delete, pP_move, pP_pick, pP_build, pP_nil_ptr, pP_nil_func, pP_bin, pP_eq, pP_neg, pP_inv, pP_not, pP_convInt, pP_convStr, pP_fieldAddr, pP_field, pP_indexAddr, pP_indexStr, pP_sliceStr, pP_sliceSl, pP_lenStr, pP_lenNil, pP_lenSl, pP_min, pP_max, pP_extract, pP_mkfn, bV_add, bV_sub, bV_mul, bV_quo, bV_rem, bV_and, bV_or, bV_xor, bV_andNot, bV_eql, bV_neq, bV_lss, bV_leq, bV_gtr, bV_geq, bV_shl, bV_shr, bV_str, eV_bool, eV_nn, eV_np, eV_pn, eV_snn, eV_sns, eV_ssn, eV_mnn, eV_mnm, eV_mmn, eV_fnn, eV_fnf, eV_ffn, eV_agg, rP_load, rP_lenNil, rP_str0, rdEl_K, rdK_row, aP_alloc, aP_box, aP_buildSlice, aP_makeSlice, aP_makeMap, aP_toBytes, hP_store, storeK_some, st_K, stK_row, stE_some, cells_agg, cells_bool, scalar_bool, cells_int, scalar_int, cells_str, scalar_str, cells_nilptr, scalar_nilptr, cells_ptr, scalar_ptr, cells_nilslice, scalar_nilslice, cells_slice, scalar_slice, cells_nilmap, scalar_nilmap, cells_map, scalar_map, cells_nilfunc, scalar_nilfunc, cells_func, scalar_func, eqCells, eqLeaf, run_toL, toL_some, ev_toL, getD_toL, put_toL, keep_toL, asc, fput_same, fput_ne, fbase_nil, fbase_cons, fkeep_nil, fkeep_cons, fzero, fnone, List.map_cons, List.map_nil, ev_lit, put_none, resVals, resVal, resOf, partV, fillA, putCells, fillEls, strBin, minV, optNat, appendEls, elsOf, sliceSlV, sliceStrV, List.replicate, List.getElem?_append_left, List.getElem?_append_right, List.set_append_left, List.set_append_right, List.getElem?_set_self, List.getElem?_set_ne, hq_get0, hq_get, hq_get2, hq_get3, hp_get0, hp_get, hp_get2, hp_get3, hp_set0, hp_set, hp_set2, hp_set3, wr_0, wr_1, wr_2, wr_3, wr_4, wr_n1, f0, f1, f7, f8, f13, f14, f23, e19', la2, sr, sr2, sl, sl2, sa3, sa4]
      repeat (first | apply yld_endFn | apply yld_seqK | apply yld_blockK | apply yld_regK | apply yld_opsK | apply yld_putK | apply yld_stgK | apply yld_chkK)
      refine down_loop (by simp [sf9, loopsAll]) (t := t) hn hm w4 b4 (by simp [hl3]) (by have := getD_last (l2.take 4) (foot ag2); rw [hl3] at this; exact this) o4 h4 h3 h1 h2 (by simp [fput, f0]) (by simp [fput, f1]) (by simp [fput, f7]) (by simp [fput, f8]) (by simp [fput, f13]) (by simp [fput, f14]) (by simp [fput, f23]) (by rfl) (by rfl) (by rfl) ?_
      intro f' k' A5 B5 L5 ca5 qa5 qb5 va5 vb5 lv5 l5 f0 f1 f7 f8 f13 f14 f23 w5 b5 g1 g2 g3 g4 g5 g6 g7
      have tB5 := h5' A5 B5 L5 ca5 qa5 qb5 b5 g1 g2 g3 g5 g7
      have tA5 := tA2.sub g4 g6
      have w6 := w5.cut
      simp [yld_some, exec_reg, exec_dreg, exec_seq, exec_cond, exec_block, exec_scope, exec_exit, exec_ret, exec_skip, exec_loop, ops_nil, ops_cons, ops_cons_gd, stages_nil, stages_cons_n, stages_cons_h, recheck, wantsOp, AV.same, sames, evalOp_p, evalOp_r, evalOp_a, evalOp_call, evalOp_callV, evalOp_store, evalOp_append, evalOp_clear, evalOp_mapUpdate, evalOp_delete, pP_move, pP_pick, pP_build, pP_nil_ptr, pP_nil_func, pP_bin, pP_eq, pP_neg, pP_inv, pP_not, pP_convInt, pP_convStr, pP_fieldAddr, pP_field, pP_indexAddr, pP_indexStr, pP_sliceStr, pP_sliceSl, pP_lenStr, pP_lenNil, pP_lenSl, pP_min, pP_max, pP_extract, pP_mkfn, bV_add, bV_sub, bV_mul, bV_quo, bV_rem, bV_and, bV_or, bV_xor, bV_andNot, bV_eql, bV_neq, bV_lss, bV_leq, bV_gtr, bV_geq, bV_shl, bV_shr, bV_str, eV_bool, eV_nn, eV_np, eV_pn, eV_snn, eV_sns, eV_ssn, eV_mnn, eV_mnm, eV_mmn, eV_fnn, eV_fnf, eV_ffn, eV_agg, rP_load, rP_lenNil, rP_str0, rdEl_K, rdK_row, aP_alloc, aP_box, aP_buildSlice, aP_makeSlice, aP_makeMap, aP_toBytes, hP_store, storeK_some, st_K, stK_row, stE_some, cells_agg, cells_bool, scalar_bool, cells_int, scalar_int, cells_str, scalar_str, cells_nilptr, scalar_nilptr, cells_ptr, scalar_ptr, cells_nilslice, scalar_nilslice, cells_slice, scalar_slice, cells_nilmap, scalar_nilmap, cells_map, scalar_map, cells_nilfunc, scalar_nilfunc, cells_func, scalar_func, eqCells, eqLeaf, run_toL, toL_some, ev_toL, getD_toL, put_toL, keep_toL, asc, fput_same, fput_ne, fbase_nil, fbase_cons, fkeep_nil, fkeep_cons, fzero, fnone, List.map_cons, List.map_nil, ev_lit, put_none, resVals, resVal, resOf, partV, fillA, putCells, fillEls, strBin, minV, optNat, appendEls, elsOf, sliceSlV, sliceStrV, List.replicate, List.getElem?_append_left, List.getElem?_append_right, List.set_append_left, List.set_append_right, List.getElem?_set_self, List.getElem?_set_ne, hq_get0, hq_get, hq_get2, hq_get3, hp_get0, hp_get, hp_get2, hp_get3, hp_set0, hp_set, hp_set2, hp_set3, wr_0, wr_1, wr_2, wr_3, wr_4, wr_n1, f0, f1, f7, f8, f13, f14, f23, hwi]
      exact ⟨12 - (t + 1), by omega, hJ _ _ _ ⟨_, t + 1, A5, B5, _, _, _, _, _, _, _, _, _, _, _, rfl, rfl, by omega, w6, b5, by have := w5.len; simp; omega, tA5, tB5, by simp [fput, f0], by simp [fput, f1], by simp [fput, f7], by simp [fput, f8], by simp [fput, f13], by simp [fput, f14], by simp [fput]⟩⟩
    · have hin : t = 12 := by omega
      subst hin
      simp [yld_some, exec_reg, exec_dreg, exec_seq, exec_cond, exec_block, exec_scope, exec_exit, exec_ret, exec_skip, exec_loop, ops_nil, ops_cons, ops_cons_gd, stages_nil, stages_cons_n, stages_cons_h, recheck, wantsOp, AV.same, sames, evalOp_p, evalOp_r, evalOp_a, evalOp_call, evalOp_callV, evalOp_store, evalOp_append, evalOp_clear, evalOp_mapUpdate, evalOp_delete, pP_move, pP_pick, pP_build, pP_nil_ptr, pP_nil_func, pP_bin, pP_eq, pP_neg, pP_inv, pP_not, pP_convInt, pP_convStr, pP_fieldAddr, pP_field, pP_indexAddr, pP_indexStr, pP_sliceStr, pP_sliceSl, pP_lenStr, pP_lenNil, pP_lenSl, pP_min, pP_max, pP_extract, pP_mkfn, bV_add, bV_sub, bV_mul, bV_quo, bV_rem, bV_and, bV_or, bV_xor, bV_andNot, bV_eql, bV_neq, bV_lss, bV_leq, bV_gtr, bV_geq, bV_shl, bV_shr, bV_str, eV_bool, eV_nn, eV_np, eV_pn, eV_snn, eV_sns, eV_ssn, eV_mnn, eV_mnm, eV_mmn, eV_fnn, eV_fnf, eV_ffn, eV_agg, rP_load, rP_lenNil, rP_str0, rdEl_K, rdK_row, aP_alloc, aP_box, aP_buildSlice, aP_makeSlice, aP_makeMap, aP_toBytes, hP_store, storeK_some, st_K, stK_row, stE_some, cells_agg, cells_bool, scalar_bool, cells_int, scalar_int, cells_str, scalar_str, cells_nilptr, scalar_nilptr, cells_ptr, scalar_ptr, cells_nilslice, scalar_nilslice, cells_slice, scalar_slice, cells_nilmap, scalar_nilmap, cells_map, scalar_map, cells_nilfunc, scalar_nilfunc, cells_func, scalar_func, eqCells, eqLeaf, run_toL, toL_some, ev_toL, getD_toL, put_toL, keep_toL, asc, fput_same, fput_ne, fbase_nil, fbase_cons, fkeep_nil, fkeep_cons, fzero, fnone, List.map_cons, List.map_nil, ev_lit, put_none, resVals, resVal, resOf, partV, fillA, putCells, fillEls, strBin, minV, optNat, appendEls, elsOf, sliceSlV, sliceStrV, List.replicate, List.getElem?_append_left, List.getElem?_append_right, List.set_append_left, List.set_append_right, List.getElem?_set_self, List.getElem?_set_ne, hq_get0, hq_get, hq_get2, hq_get3, hp_get0, hp_get, hp_get2, hp_get3, hp_set0, hp_set, hp_set2, hp_set3, wr_0, wr_1, wr_2, wr_3, wr_4, wr_n1, f0, f1, f7, f8, f13, f14, f23, sr, sr2, sl, sl2]
      exact hQ' _ (hQ _ _ A B R L ca cb qa qb va vb rv lv l rfl rfl rfl rfl rfl rfl w b (tA.rest (by omega)) (tB.rest (by omega)))
set_option maxHeartbeats 16000000 in
/-- What went up is in order. -/
theorem right_loop {lvs : List Nat} {body : SCode} (hb : (loopsAll sf9.body)[6]? = some (lvs, body)) {n : Nat} (hn : n ≤ 20) {k : H} {rv lv : AV} {f : Nat → AV} (or : Own k 21 rv (lts (seg xk 0 n))) (sl : lv.cells = some [lv] ∧ lv.scalar = true)
    (f13 : f 13 = lv) (f14 : f 14 = rv) (f234 : f 234 = .int .i64 n) (f235 : f 235 = .int .i64 0) {Q : (Ex × Env) × H → Prop} (hQ : ∀ f', f' 13 = lv → Q ((.exit 12, toL 261 f'), k)) :
    Yld (itw (fun env => exec (call fs2 ex2) itw body (keepFrom lvs 0 env)) (toL 261 f) k) Q := by
  simp [sf9, loopsAll] at hb
  obtain ⟨rfl, rfl⟩ := hb
  have so := or.cells
  have so2 := or.scalar
  refine yld_rounds (fun z e kk => ∃ (f : Nat → AV) (i : Nat), e = toL 261 f ∧ z = n - i ∧ i ≤ n ∧ kk = k ∧ f 13 = lv ∧ f 14 = rv ∧ f 234 = .int .i64 n ∧ f 235 = .int .i64 (i : Nat)) (n - 0) ?_ ?_
  · exact ⟨f, 0, rfl, rfl, Nat.zero_le _, rfl, f13, f14, f234, f235⟩
  · clear f13 f14 f234 f235
    rintro J Q' hJ hQ' z e kk ⟨f, i, rfl, rfl, hi, rfl, f13, f14, f234, f235⟩
    by_cases hil : i < n
    · have d0 : decide ((i : Int) < (n : Nat)) = true := dec_true (by omega)
      have hwi : IntKind.i64.wrap ((i : Int) + 1) = ((i + 1 : Nat) : Int) := wrap_i64 (by omega) (by omega)
      obtain ⟨pb, ip, gp⟩ := own_idx or (i := i) (by simp [lts, seg_len]; exact hil)
      rw [lts_get] at gp
      have hg : (seg xk 0 n)[i]'(by rw [seg_len]; omega) = xk (i + 1) := by
        have := seg_get (x := xk) (n := n) hil
        rw [List.getElem?_eq_getElem (by rw [seg_len]; omega)] at this
        exact Option.some.inj this
      rw [hg] at gp
      simp only [xk, Lt.av] at gp
      simp [yld_some, exec_reg, exec_dreg, exec_seq, exec_cond, exec_block, exec_scope, exec_exit, exec_ret, exec_skip, exec_loop, ops_nil, ops_cons, ops_cons_gd, stages_nil, stages_cons_n, stages_cons_h, recheck, wantsOp, AV.same, sames, evalOp_p, evalOp_r, evalOp_a, evalOp_call, evalOp_callV, evalOp_store, evalOp_append, evalOp_clear, evalOp_mapUpdate, evalOp_delete, pP_move, pP_pick, pP_build, pP_nil_ptr, pP_nil_func, pP_bin, pP_eq, pP_neg, pP_inv, pP_not, pP_convInt, pP_convStr, pP_fieldAddr, pP_field, pP_indexAddr, pP_indexStr, pP_sliceStr, pP_sliceSl, pP_lenStr, pP_lenNil, pP_lenSl, pP_min, pP_max, pP_extract, pP_mkfn, bV_add, bV_sub, bV_mul, bV_quo, bV_rem, bV_and, bV_or, bV_xor, bV_andNot, bV_eql, bV_neq, bV_lss, bV_leq, bV_gtr, bV_geq, bV_shl, bV_shr, bV_str, eV_bool, eV_nn, eV_np, eV_pn, eV_snn, eV_sns, eV_ssn, eV_mnn, eV_mnm, eV_mmn, eV_fnn, eV_fnf, eV_ffn, eV_agg, rP_load, rP_lenNil, rP_str0, rdEl_K, rdK_row, aP_alloc, aP_box, aP_buildSlice, aP_makeSlice, aP_makeMap, aP_toBytes, hP_store, storeK_some, st_K, stK_row, stE_some, cells_agg, cells_bool, scalar_bool, cells_int, scalar_int, cells_str, scalar_str, cells_nilptr, scalar_nilptr, cells_ptr, scalar_ptr, cells_nilslice, scalar_nilslice, cells_slice, scalar_slice, cells_nilmap, scalar_nilmap, cells_map, scalar_map, cells_nilfunc, scalar_nilfunc, cells_func, scalar_func, eqCells, eqLeaf, run_toL, toL_some, ev_toL, getD_toL, put_toL, keep_toL, asc, fput_same, fput_ne, fbase_nil, fbase_cons, fkeep_nil, fkeep_cons, fzero, fnone, List.map_cons, List.map_nil, ev_lit, put_none, resVals, resVal, resOf, partV, fillA, putCells, fillEls, strBin, minV, optNat, appendEls, elsOf, sliceSlV, sliceStrV, List.replicate, List.getElem?_append_left, List.getElem?_append_right, List.set_append_left, List.set_append_right, List.getElem?_set_self, List.getElem?_set_ne, hq_get0, hq_get, hq_get2, hq_get3, hp_get0, hp_get, hp_get2, hp_get3, hp_set0, hp_set, hp_set2, hp_set3, wr_0, wr_1, wr_2, wr_3, wr_4, wr_n1, f13, f14, f234, f235, d0, hil, hwi, ip, gp, so, so2, sl.1, sl.2]
      exact ⟨n - (i + 1), by omega, hJ _ _ _ ⟨_, i + 1, rfl, rfl, hil, rfl, rfl, rfl, rfl, rfl⟩⟩
    · have hin : i = n := by omega
      subst hin
      simp [yld_some, exec_reg, exec_dreg, exec_seq, exec_cond, exec_block, exec_scope, exec_exit, exec_ret, exec_skip, exec_loop, ops_nil, ops_cons, ops_cons_gd, stages_nil, stages_cons_n, stages_cons_h, recheck, wantsOp, AV.same, sames, evalOp_p, evalOp_r, evalOp_a, evalOp_call, evalOp_callV, evalOp_store, evalOp_append, evalOp_clear, evalOp_mapUpdate, evalOp_delete, pP_move, pP_pick, pP_build, pP_nil_ptr, pP_nil_func, pP_bin, pP_eq, pP_neg, pP_inv, pP_not, pP_convInt, pP_convStr, pP_fieldAddr, pP_field, pP_indexAddr, pP_indexStr, pP_sliceStr, pP_sliceSl, pP_lenStr, pP_lenNil, pP_lenSl, pP_min, pP_max, pP_extract, pP_mkfn, bV_add, bV_sub, bV_mul, bV_quo, bV_rem, bV_and, bV_or, bV_xor, bV_andNot, bV_eql, bV_neq, bV_lss, bV_leq, bV_gtr, bV_geq, bV_shl, bV_shr, bV_str, eV_bool, eV_nn, eV_np, eV_pn, eV_snn, eV_sns, eV_ssn, eV_mnn, eV_mnm, eV_mmn, eV_fnn, eV_fnf, eV_ffn, eV_agg, rP_load, rP_lenNil, rP_str0, rdEl_K, rdK_row, aP_alloc, aP_box, aP_buildSlice, aP_makeSlice, aP_makeMap, aP_toBytes, hP_store, storeK_some, st_K, stK_row, stE_some, cells_agg, cells_bool, scalar_bool, cells_int, scalar_int, cells_str, scalar_str, cells_nilptr, scalar_nilptr, cells_ptr, scalar_ptr, cells_nilslice, scalar_nilslice, cells_slice, scalar_slice, cells_nilmap, scalar_nilmap, cells_map, scalar_map, cells_nilfunc, scalar_nilfunc, cells_func, scalar_func, eqCells, eqLeaf, run_toL, toL_some, ev_toL, getD_toL, put_toL, keep_toL, asc, fput_same, fput_ne, fbase_nil, fbase_cons, fkeep_nil, fkeep_cons, fzero, fnone, List.map_cons, List.map_nil, ev_lit, put_none, resVals, resVal, resOf, partV, fillA, putCells, fillEls, strBin, minV, optNat, appendEls, elsOf, sliceSlV, sliceStrV, List.replicate, List.getElem?_append_left, List.getElem?_append_right, List.set_append_left, List.set_append_right, List.getElem?_set_self, List.getElem?_set_ne, hq_get0, hq_get, hq_get2, hq_get3, hp_get0, hp_get, hp_get2, hp_get3, hp_set0, hp_set, hp_set2, hp_set3, wr_0, wr_1, wr_2, wr_3, wr_4, wr_n1, f13, f14, f234, f235, sl.1, sl.2, so, so2]
      exact hQ' _ (hQ _ rfl)
set_option maxHeartbeats 16000000 in
theorem left_loop {lvs : List Nat} {body : SCode} (hb : (loopsAll sf9.body)[7]? = some (lvs, body)) {n : Nat} (hn : n ≤ 20) {k : H} {lv : AV} {f : Nat → AV} (or : Own k 21 lv (lts (seg yk 0 n)))
    (f13 : f 13 = lv) (f248 : f 248 = .int .i64 n) (f249 : f 249 = .int .i64 0) {Q : (Ex × Env) × H → Prop} (hQ : ∀ f', Q ((.exit 14, toL 261 f'), k)) :
    Yld (itw (fun env => exec (call fs2 ex2) itw body (keepFrom lvs 0 env)) (toL 261 f) k) Q := by
  simp [sf9, loopsAll] at hb
  obtain ⟨rfl, rfl⟩ := hb
  have so := or.cells
  have so2 := or.scalar
  refine yld_rounds (fun z e kk => ∃ (f : Nat → AV) (i : Nat), e = toL 261 f ∧ z = n - i ∧ i ≤ n ∧ kk = k ∧ f 13 = lv ∧ f 248 = .int .i64 n ∧ f 249 = .int .i64 (i : Nat)) (n - 0) ?_ ?_
  · exact ⟨f, 0, rfl, rfl, Nat.zero_le _, rfl, f13, f248, f249⟩
  · clear f13 f248 f249
    rintro J Q' hJ hQ' z e kk ⟨f, i, rfl, rfl, hi, rfl, f13, f248, f249⟩
    by_cases hil : i < n
    · have d0 : decide ((i : Int) < (n : Nat)) = true := dec_true (by omega)
      have hwi : IntKind.i64.wrap ((i : Int) + 1) = ((i + 1 : Nat) : Int) := wrap_i64 (by omega) (by omega)
      obtain ⟨pb, ip, gp⟩ := own_idx or (i := i) (by simp [lts, seg_len]; exact hil)
      rw [lts_get] at gp
      have hg : (seg yk 0 n)[i]'(by rw [seg_len]; omega) = yk (i + 1) := by
        have := seg_get (x := yk) (n := n) hil
        rw [List.getElem?_eq_getElem (by rw [seg_len]; omega)] at this
        exact Option.some.inj this
      rw [hg] at gp
      simp only [yk, Lt.av] at gp
      simp [yld_some, exec_reg, exec_dreg, exec_seq, exec_cond, exec_block, exec_scope, exec_exit, exec_ret, exec_skip, exec_loop, ops_nil, ops_cons, ops_cons_gd, stages_nil, stages_cons_n, stages_cons_h, recheck, wantsOp, AV.same, sames, evalOp_p, evalOp_r, evalOp_a, evalOp_call, evalOp_callV, evalOp_store, evalOp_append, evalOp_clear, evalOp_mapUpdate, evalOp_delete, pP_move, pP_pick, pP_build, pP_nil_ptr, pP_nil_func, pP_bin, pP_eq, pP_neg, pP_inv, pP_not, pP_convInt, pP_convStr, pP_fieldAddr, pP_field, pP_indexAddr, pP_indexStr, pP_sliceStr, pP_sliceSl, pP_lenStr, pP_lenNil, pP_lenSl, pP_min, pP_max, pP_extract, pP_mkfn, bV_add, bV_sub, bV_mul, bV_quo, bV_rem, bV_and, bV_or, bV_xor, bV_andNot, bV_eql, bV_neq, bV_lss, bV_leq, bV_gtr, bV_geq, bV_shl, bV_shr, bV_str, eV_bool, eV_nn, eV_np, eV_pn, eV_snn, eV_sns, eV_ssn, eV_mnn, eV_mnm, eV_mmn, eV_fnn, eV_fnf, eV_ffn, eV_agg, rP_load, rP_lenNil, rP_str0, rdEl_K, rdK_row, aP_alloc, aP_box, aP_buildSlice, aP_makeSlice, aP_makeMap, aP_toBytes, hP_store, storeK_some, st_K, stK_row, stE_some, cells_agg, cells_bool, scalar_bool, cells_int, scalar_int, cells_str, scalar_str, cells_nilptr, scalar_nilptr, cells_ptr, scalar_ptr, cells_nilslice, scalar_nilslice, cells_slice, scalar_slice, cells_nilmap, scalar_nilmap, cells_map, scalar_map, cells_nilfunc, scalar_nilfunc, cells_func, scalar_func, eqCells, eqLeaf, run_toL, toL_some, ev_toL, getD_toL, put_toL, keep_toL, asc, fput_same, fput_ne, fbase_nil, fbase_cons, fkeep_nil, fkeep_cons, fzero, fnone, List.map_cons, List.map_nil, ev_lit, put_none, resVals, resVal, resOf, partV, fillA, putCells, fillEls, strBin, minV, optNat, appendEls, elsOf, sliceSlV, sliceStrV, List.replicate, List.getElem?_append_left, List.getElem?_append_right, List.set_append_left, List.set_append_right, List.getElem?_set_self, List.getElem?_set_ne, hq_get0, hq_get, hq_get2, hq_get3, hp_get0, hp_get, hp_get2, hp_get3, hp_set0, hp_set, hp_set2, hp_set3, wr_0, wr_1, wr_2, wr_3, wr_4, wr_n1, f13, f248, f249, d0, hil, hwi, ip, gp, so, so2]
      exact ⟨n - (i + 1), by omega, hJ _ _ _ ⟨_, i + 1, rfl, rfl, hil, rfl, rfl, rfl, rfl⟩⟩
    · have hin : i = n := by omega
      subst hin
      simp [yld_some, exec_reg, exec_dreg, exec_seq, exec_cond, exec_block, exec_scope, exec_exit, exec_ret, exec_skip, exec_loop, ops_nil, ops_cons, ops_cons_gd, stages_nil, stages_cons_n, stages_cons_h, recheck, wantsOp, AV.same, sames, evalOp_p, evalOp_r, evalOp_a, evalOp_call, evalOp_callV, evalOp_store, evalOp_append, evalOp_clear, evalOp_mapUpdate, evalOp_delete, pP_move, pP_pick, pP_build, pP_nil_ptr, pP_nil_func, pP_bin, pP_eq, pP_neg, pP_inv, pP_not, pP_convInt, pP_convStr, pP_fieldAddr, pP_field, pP_indexAddr, pP_indexStr, pP_sliceStr, pP_sliceSl, pP_lenStr, pP_lenNil, pP_lenSl, pP_min, pP_max, pP_extract, pP_mkfn, bV_add, bV_sub, bV_mul, bV_quo, bV_rem, bV_and, bV_or, bV_xor, bV_andNot, bV_eql, bV_neq, bV_lss, bV_leq, bV_gtr, bV_geq, bV_shl, bV_shr, bV_str, eV_bool, eV_nn, eV_np, eV_pn, eV_snn, eV_sns, eV_ssn, eV_mnn, eV_mnm, eV_mmn, eV_fnn, eV_fnf, eV_ffn, eV_agg, rP_load, rP_lenNil, rP_str0, rdEl_K, rdK_row, aP_alloc, aP_box, aP_buildSlice, aP_makeSlice, aP_makeMap, aP_toBytes, hP_store, storeK_some, st_K, stK_row, stE_some, cells_agg, cells_bool, scalar_bool, cells_int, scalar_int, cells_str, scalar_str, cells_nilptr, scalar_nilptr, cells_ptr, scalar_ptr, cells_nilslice, scalar_nilslice, cells_slice, scalar_slice, cells_nilmap, scalar_nilmap, cells_map, scalar_map, cells_nilfunc, scalar_nilfunc, cells_func, scalar_func, eqCells, eqLeaf, run_toL, toL_some, ev_toL, getD_toL, put_toL, keep_toL, asc, fput_same, fput_ne, fbase_nil, fbase_cons, fkeep_nil, fkeep_cons, fzero, fnone, List.map_cons, List.map_nil, ev_lit, put_none, resVals, resVal, resOf, partV, fillA, putCells, fillEls, strBin, minV, optNat, appendEls, elsOf, sliceSlV, sliceStrV, List.replicate, List.getElem?_append_left, List.getElem?_append_right, List.set_append_left, List.set_append_right, List.getElem?_set_self, List.getElem?_set_ne, hq_get0, hq_get, hq_get2, hq_get3, hp_get0, hp_get, hp_get2, hp_get3, hp_set0, hp_set, hp_set2, hp_set3, wr_0, wr_1, wr_2, wr_3, wr_4, wr_n1, f13, f248, f249, so, so2]
      exact hQ' _ (hQ _)
set_option maxHeartbeats 32000000 in
theorem both_law {h : H} {v : AV} {xs : List Int} (hv : SlOf h 1 v (ints xs)) (n0 m0 : Int) : Yld (call fs2 ex2 9 [.int .i64 n0, .int .i64 m0, v] h) fun r => r.1 = .bool true := by
  refine yld_shut fun Q hQ => ?_
  rw [call_eq fs2 ex2 (f := 9) (sf := sf9) rfl]
  have hQ' : ∀ k, Q (.bool true, k) := fun k => hQ _ rfl
  have lv := sl_len hv
  rw [ints_len] at lv
  by_cases h1 : n0 < 0
  · simp [sf9, yld_some, exec_reg, exec_dreg, exec_seq, exec_cond, exec_block, exec_scope, exec_exit, exec_ret, exec_skip, exec_loop, ops_nil, ops_cons, ops_cons_gd, stages_nil, stages_cons_n, stages_cons_h, recheck, wantsOp, AV.same, sames, evalOp_p, evalOp_r, evalOp_a, evalOp_call, evalOp_callV, evalOp_store, evalOp_append, evalOp_clear, evalOp_mapUpdate, evalOp_delete, pP_move, pP_pick, pP_build, pP_nil_ptr, pP_nil_func, pP_bin, pP_eq, pP_neg, pP_inv, pP_not, pP_convInt, pP_convStr, pP_fieldAddr, pP_field, pP_indexAddr, pP_indexStr, pP_sliceStr, pP_sliceSl, pP_lenStr, pP_lenNil, pP_lenSl, pP_min, pP_max, pP_extract, pP_mkfn, bV_add, bV_sub, bV_mul, bV_quo, bV_rem, bV_and, bV_or, bV_xor, bV_andNot, bV_eql, bV_neq, bV_lss, bV_leq, bV_gtr, bV_geq, bV_shl, bV_shr, bV_str, eV_bool, eV_nn, eV_np, eV_pn, eV_snn, eV_sns, eV_ssn, eV_mnn, eV_mnm, eV_mmn, eV_fnn, eV_fnf, eV_ffn, eV_agg, rP_load, rP_lenNil, rP_str0, rdEl_K, rdK_row, aP_alloc, aP_box, aP_buildSlice, aP_makeSlice, aP_makeMap, aP_toBytes, hP_store, storeK_some, st_K, stK_row, stE_some, cells_agg, cells_bool, scalar_bool, cells_int, scalar_int, cells_str, scalar_str, cells_nilptr, scalar_nilptr, cells_ptr, scalar_ptr, cells_nilslice, scalar_nilslice, cells_slice, scalar_slice, cells_nilmap, scalar_nilmap, cells_map, scalar_map, cells_nilfunc, scalar_nilfunc, cells_func, scalar_func, eqCells, eqLeaf, run_toL, toL_some, ev_toL, getD_toL, put_toL, keep_toL, asc, fput_same, fput_ne, fbase_nil, fbase_cons, fkeep_nil, fkeep_cons, fzero, fnone, List.map_cons, List.map_nil, ev_lit, put_none, resVals, resVal, resOf, partV, fillA, putCells, fillEls, strBin, minV, optNat, appendEls, elsOf, sliceSlV, sliceStrV, List.replicate, List.getElem?_append_left, List.getElem?_append_right, List.set_append_left, List.set_append_right, List.getElem?_set_self, List.getElem?_set_ne, hq_get0, hq_get, hq_get2, hq_get3, hp_get0, hp_get, hp_get2, hp_get3, hp_set0, hp_set, hp_set2, hp_set3, wr_0, wr_1, wr_2, wr_3, wr_4, wr_n1, e2_10, ex2, h1, hQ']
  have d1 : decide (n0 < 0) = false := dec_false h1
  by_cases h2 : 20 < n0
  · simp [sf9, yld_some, exec_reg, exec_dreg, exec_seq, exec_cond, exec_block, exec_scope, exec_exit, exec_ret, exec_skip, exec_loop, ops_nil, ops_cons, ops_cons_gd, stages_nil, stages_cons_n, stages_cons_h, recheck, wantsOp, AV.same, sames, evalOp_p, evalOp_r, evalOp_a, evalOp_call, evalOp_callV, evalOp_store, evalOp_append, evalOp_clear, evalOp_mapUpdate, evalOp_delete, pP_move, pP_pick, pP_build, pP_nil_ptr, pP_nil_func, pP_bin, pP_eq, pP_neg, pP_inv, pP_not, pP_convInt, pP_convStr, pP_fieldAddr, pP_field, pP_indexAddr, pP_indexStr, pP_sliceStr, pP_sliceSl, pP_lenStr, pP_lenNil, pP_lenSl, pP_min, pP_max, pP_extract, pP_mkfn, bV_add, bV_sub, bV_mul, bV_quo, bV_rem, bV_and, bV_or, bV_xor, bV_andNot, bV_eql, bV_neq, bV_lss, bV_leq, bV_gtr, bV_geq, bV_shl, bV_shr, bV_str, eV_bool, eV_nn, eV_np, eV_pn, eV_snn, eV_sns, eV_ssn, eV_mnn, eV_mnm, eV_mmn, eV_fnn, eV_fnf, eV_ffn, eV_agg, rP_load, rP_lenNil, rP_str0, rdEl_K, rdK_row, aP_alloc, aP_box, aP_buildSlice, aP_makeSlice, aP_makeMap, aP_toBytes, hP_store, storeK_some, st_K, stK_row, stE_some, cells_agg, cells_bool, scalar_bool, cells_int, scalar_int, cells_str, scalar_str, cells_nilptr, scalar_nilptr, cells_ptr, scalar_ptr, cells_nilslice, scalar_nilslice, cells_slice, scalar_slice, cells_nilmap, scalar_nilmap, cells_map, scalar_map, cells_nilfunc, scalar_nilfunc, cells_func, scalar_func, eqCells, eqLeaf, run_toL, toL_some, ev_toL, getD_toL, put_toL, keep_toL, asc, fput_same, fput_ne, fbase_nil, fbase_cons, fkeep_nil, fkeep_cons, fzero, fnone, List.map_cons, List.map_nil, ev_lit, put_none, resVals, resVal, resOf, partV, fillA, putCells, fillEls, strBin, minV, optNat, appendEls, elsOf, sliceSlV, sliceStrV, List.replicate, List.getElem?_append_left, List.getElem?_append_right, List.set_append_left, List.set_append_right, List.getElem?_set_self, List.getElem?_set_ne, hq_get0, hq_get, hq_get2, hq_get3, hp_get0, hp_get, hp_get2, hp_get3, hp_set0, hp_set, hp_set2, hp_set3, wr_0, wr_1, wr_2, wr_3, wr_4, wr_n1, e2_10, ex2, d1, h2, hQ']
  have d2 : decide (20 < n0) = false := dec_false h2
  by_cases h3 : m0 < 0
  · simp [sf9, yld_some, exec_reg, exec_dreg, exec_seq, exec_cond, exec_block, exec_scope, exec_exit, exec_ret, exec_skip, exec_loop, ops_nil, ops_cons, ops_cons_gd, stages_nil, stages_cons_n, stages_cons_h, recheck, wantsOp, AV.same, sames, evalOp_p, evalOp_r, evalOp_a, evalOp_call, evalOp_callV, evalOp_store, evalOp_append, evalOp_clear, evalOp_mapUpdate, evalOp_delete, pP_move, pP_pick, pP_build, pP_nil_ptr, pP_nil_func, pP_bin, pP_eq, pP_neg, pP_inv, pP_not, pP_convInt, pP_convStr, pP_fieldAddr, pP_field, pP_indexAddr, pP_indexStr, pP_sliceStr, pP_sliceSl, pP_lenStr, pP_lenNil, pP_lenSl, pP_min, pP_max, pP_extract, pP_mkfn, bV_add, bV_sub, bV_mul, bV_quo, bV_rem, bV_and, bV_or, bV_xor, bV_andNot, bV_eql, bV_neq, bV_lss, bV_leq, bV_gtr, bV_geq, bV_shl, bV_shr, bV_str, eV_bool, eV_nn, eV_np, eV_pn, eV_snn, eV_sns, eV_ssn, eV_mnn, eV_mnm, eV_mmn, eV_fnn, eV_fnf, eV_ffn, eV_agg, rP_load, rP_lenNil, rP_str0, rdEl_K, rdK_row, aP_alloc, aP_box, aP_buildSlice, aP_makeSlice, aP_makeMap, aP_toBytes, hP_store, storeK_some, st_K, stK_row, stE_some, cells_agg, cells_bool, scalar_bool, cells_int, scalar_int, cells_str, scalar_str, cells_nilptr, scalar_nilptr, cells_ptr, scalar_ptr, cells_nilslice, scalar_nilslice, cells_slice, scalar_slice, cells_nilmap, scalar_nilmap, cells_map, scalar_map, cells_nilfunc, scalar_nilfunc, cells_func, scalar_func, eqCells, eqLeaf, run_toL, toL_some, ev_toL, getD_toL, put_toL, keep_toL, asc, fput_same, fput_ne, fbase_nil, fbase_cons, fkeep_nil, fkeep_cons, fzero, fnone, List.map_cons, List.map_nil, ev_lit, put_none, resVals, resVal, resOf, partV, fillA, putCells, fillEls, strBin, minV, optNat, appendEls, elsOf, sliceSlV, sliceStrV, List.replicate, List.getElem?_append_left, List.getElem?_append_right, List.set_append_left, List.set_append_right, List.getElem?_set_self, List.getElem?_set_ne, hq_get0, hq_get, hq_get2, hq_get3, hp_get0, hp_get, hp_get2, hp_get3, hp_set0, hp_set, hp_set2, hp_set3, wr_0, wr_1, wr_2, wr_3, wr_4, wr_n1, e2_10, ex2, d1, d2, h3, hQ']
  have d3 : decide (m0 < 0) = false := dec_false h3
  by_cases h4 : 20 < m0
  · simp [sf9, yld_some, exec_reg, exec_dreg, exec_seq, exec_cond, exec_block, exec_scope, exec_exit, exec_ret, exec_skip, exec_loop, ops_nil, ops_cons, ops_cons_gd, stages_nil, stages_cons_n, stages_cons_h, recheck, wantsOp, AV.same, sames, evalOp_p, evalOp_r, evalOp_a, evalOp_call, evalOp_callV, evalOp_store, evalOp_append, evalOp_clear, evalOp_mapUpdate, evalOp_delete, pP_move, pP_pick, pP_build, pP_nil_ptr, pP_nil_func, pP_bin, pP_eq, pP_neg, pP_inv, pP_not, pP_convInt, pP_convStr, pP_fieldAddr, pP_field, pP_indexAddr, pP_indexStr, pP_sliceStr, pP_sliceSl, pP_lenStr, pP_lenNil, pP_lenSl, pP_min, pP_max, pP_extract, pP_mkfn, bV_add, bV_sub, bV_mul, bV_quo, bV_rem, bV_and, bV_or, bV_xor, bV_andNot, bV_eql, bV_neq, bV_lss, bV_leq, bV_gtr, bV_geq, bV_shl, bV_shr, bV_str, eV_bool, eV_nn, eV_np, eV_pn, eV_snn, eV_sns, eV_ssn, eV_mnn, eV_mnm, eV_mmn, eV_fnn, eV_fnf, eV_ffn, eV_agg, rP_load, rP_lenNil, rP_str0, rdEl_K, rdK_row, aP_alloc, aP_box, aP_buildSlice, aP_makeSlice, aP_makeMap, aP_toBytes, hP_store, storeK_some, st_K, stK_row, stE_some, cells_agg, cells_bool, scalar_bool, cells_int, scalar_int, cells_str, scalar_str, cells_nilptr, scalar_nilptr, cells_ptr, scalar_ptr, cells_nilslice, scalar_nilslice, cells_slice, scalar_slice, cells_nilmap, scalar_nilmap, cells_map, scalar_map, cells_nilfunc, scalar_nilfunc, cells_func, scalar_func, eqCells, eqLeaf, run_toL, toL_some, ev_toL, getD_toL, put_toL, keep_toL, asc, fput_same, fput_ne, fbase_nil, fbase_cons, fkeep_nil, fkeep_cons, fzero, fnone, List.map_cons, List.map_nil, ev_lit, put_none, resVals, resVal, resOf, partV, fillA, putCells, fillEls, strBin, minV, optNat, appendEls, elsOf, sliceSlV, sliceStrV, List.replicate, List.getElem?_append_left, List.getElem?_append_right, List.set_append_left, List.set_append_right, List.getElem?_set_self, List.getElem?_set_ne, hq_get0, hq_get, hq_get2, hq_get3, hp_get0, hp_get, hp_get2, hp_get3, hp_set0, hp_set, hp_set2, hp_set3, wr_0, wr_1, wr_2, wr_3, wr_4, wr_n1, e2_10, ex2, d1, d2, d3, h4, hQ']
  have d4 : decide (20 < m0) = false := dec_false h4
  by_cases h5 : 100 < xs.length
  · have d5 : decide ((100 : Int) < xs.length) = true := dec_true (by omega)
    simp [sf9, yld_some, exec_reg, exec_dreg, exec_seq, exec_cond, exec_block, exec_scope, exec_exit, exec_ret, exec_skip, exec_loop, ops_nil, ops_cons, ops_cons_gd, stages_nil, stages_cons_n, stages_cons_h, recheck, wantsOp, AV.same, sames, evalOp_p, evalOp_r, evalOp_a, evalOp_call, evalOp_callV, evalOp_store, evalOp_append, evalOp_clear, evalOp_mapUpdate, evalOp_delete, pP_move, pP_pick, pP_build, pP_nil_ptr, pP_nil_func, pP_bin, pP_eq, pP_neg, pP_inv, pP_not, pP_convInt, pP_convStr, pP_fieldAddr, pP_field, pP_indexAddr, pP_indexStr, pP_sliceStr, pP_sliceSl, pP_lenStr, pP_lenNil, pP_lenSl, pP_min, pP_max, pP_extract, pP_mkfn, bV_add, bV_sub, bV_mul, bV_quo, bV_rem, bV_and, bV_or, bV_xor, bV_andNot, bV_eql, bV_neq, bV_lss, bV_leq, bV_gtr, bV_geq, bV_shl, bV_shr, bV_str, eV_bool, eV_nn, eV_np, eV_pn, eV_snn, eV_sns, eV_ssn, eV_mnn, eV_mnm, eV_mmn, eV_fnn, eV_fnf, eV_ffn, eV_agg, rP_load, rP_lenNil, rP_str0, rdEl_K, rdK_row, aP_alloc, aP_box, aP_buildSlice, aP_makeSlice, aP_makeMap, aP_toBytes, hP_store, storeK_some, st_K, stK_row, stE_some, cells_agg, cells_bool, scalar_bool, cells_int, scalar_int, cells_str, scalar_str, cells_nilptr, scalar_nilptr, cells_ptr, scalar_ptr, cells_nilslice, scalar_nilslice, cells_slice, scalar_slice, cells_nilmap, scalar_nilmap, cells_map, scalar_map, cells_nilfunc, scalar_nilfunc, cells_func, scalar_func, eqCells, eqLeaf, run_toL, toL_some, ev_toL, getD_toL, put_toL, keep_toL, asc, fput_same, fput_ne, fbase_nil, fbase_cons, fkeep_nil, fkeep_cons, fzero, fnone, List.map_cons, List.map_nil, ev_lit, put_none, resVals, resVal, resOf, partV, fillA, putCells, fillEls, strBin, minV, optNat, appendEls, elsOf, sliceSlV, sliceStrV, List.replicate, List.getElem?_append_left, List.getElem?_append_right, List.set_append_left, List.set_append_right, List.getElem?_set_self, List.getElem?_set_ne, hq_get0, hq_get, hq_get2, hq_get3, hp_get0, hp_get, hp_get2, hp_get3, hp_set0, hp_set, hp_set2, hp_set3, wr_0, wr_1, wr_2, wr_3, wr_4, wr_n1, e2_10, ex2, d1, d2, d3, d4, lv, h5, d5, hQ']
  have d5 : decide ((100 : Int) < xs.length) = false := dec_false (by omega)
  have d5' : decide (100 < xs.length) = false := dec_false h5
  obtain ⟨n, rfl⟩ : ∃ n : Nat, n0 = n := ⟨n0.toNat, by omega⟩
  obtain ⟨m, rfl⟩ : ∃ n : Nat, m0 = n := ⟨m0.toNat, by omega⟩
  have hn : n ≤ 20 := by omega
  have hm : m ≤ 20 := by omega
  have n1 := new_call 1 2 h
  have a1 := new_at 1 2 h
  generalize hh1 : h ++ [Blk.map [], .row 7 [[.int .i64 1, .int .i64 2, .int .i64 0, .int .i64 0, .nilslice, .int .i64 0, .map h.length]] true true] = k1 at n1 a1
  have n2 := new_call 2 1 k1
  have a2 := new_at 2 1 k1
  have hl1 : k1.length = h.length + 2 := by rw [← hh1]; simp
  have a1' := a1.keep' (Chg.app k1 [Blk.map [], .row 7 [[.int .i64 2, .int .i64 1, .int .i64 0, .int .i64 0, .nilslice, .int .i64 0, .map k1.length]] true true] []) (by simp)
  have c1 : Chg h (k1 ++ [Blk.map [], .row 7 [[.int .i64 2, .int .i64 1, .int .i64 0, .int .i64 0, .nilslice, .int .i64 0, .map k1.length]] true true]) [] := by
    rw [← hh1]; exact (Chg.app h _ []).trans (Chg.app _ _ []) (by simp)
  have hv1 := sl_keep hv c1 (by simp)
  have hlt := sl_lt hv
  generalize hh2 : k1 ++ [Blk.map [], .row 7 [[.int .i64 2, .int .i64 1, .int .i64 0, .int .i64 0, .nilslice, .int .i64 0, .map k1.length]] true true] = k2 at n2 a2 a1' hv1 c1
  have hl2 : k2.length = h.length + 4 := by rw [← hh2]; simp; omega
  have w0 : Wd k2 [[h.length + 1, h.length], [k1.length + 1, k1.length], [], [], [], [], sfoot v (ints xs)] (h.length + 1) h.length (k1.length + 1) k1.length .nilslice .nilslice .nilslice .nilslice (Ls.fresh 1 2) (Ls.fresh 2 1) [] [] := by
    refine ⟨⟨?_, ?_⟩, rfl, rfl, rfl, rfl, by simp, a1', a2, .inl ⟨rfl, rfl⟩, .inl ⟨rfl, rfl⟩⟩
    · intro i c hc
      match i, hc with
      | 0, hc => simp at hc; omega
      | 1, hc => simp at hc; omega
      | 2, hc => simp at hc
      | 3, hc => simp at hc
      | 4, hc => simp at hc
      | 5, hc => simp at hc
      | 6, hc => have := hlt c hc; omega
      | i + 7, hc => simp at hc
    · intro i j hij c hc hc'
      have A : ∀ i, c ∈ [[h.length + 1, h.length], [k1.length + 1, k1.length], [], [], [], [], sfoot v (ints xs)].getD i [] → (i = 0 ∧ h.length ≤ c ∧ c < k1.length) ∨ (i = 1 ∧ k1.length ≤ c) ∨ (i = 6 ∧ c < h.length) := by
        intro i hc
        match i, hc with
        | 0, hc => left; simp at hc; omega
        | 1, hc => right; left; simp at hc; omega
        | 2, hc => simp at hc
        | 3, hc => simp at hc
        | 4, hc => simp at hc
        | 5, hc => simp at hc
        | 6, hc => right; right; exact ⟨rfl, hlt c hc⟩
        | i + 7, hc => simp at hc
      rcases A i hc with ⟨e1, e2, e3⟩ | ⟨e1, e2⟩ | ⟨e1, e2⟩ <;> rcases A j hc' with ⟨g1, g2, g3⟩ | ⟨g1, g2⟩ | ⟨g1, g2⟩ <;> omega
  have t1 : Tm 0 (Ls.fresh 1 2) := ⟨rfl, by simp [Ls.fresh], by omega⟩
  have t2 : Tm 0 (Ls.fresh 2 1) := ⟨rfl, by simp [Ls.fresh], by omega⟩
  have g1 : decide (n > 20) = false := dec_false (by omega)
  have sv := slOf_cells hv
  have q1 : decide ((20 : Int) < (n : Int)) = false := dec_false (by omega)
  have q2 : decide ((20 : Int) < (m : Int)) = false := dec_false (by omega)
  have q3 : decide ((n : Int) < 0) = false := dec_false (by omega)
  have q4 : decide ((m : Int) < 0) = false := dec_false (by omega)
  have q5 : decide (20 < n) = false := dec_false (by omega)
  have q6 : decide (20 < m) = false := dec_false (by omega)
  simp [sf9, yld_some, exec_reg, exec_dreg, exec_seq, exec_cond, exec_block, exec_scope, exec_exit, exec_ret, exec_skip, exec_loop, ops_nil, ops_cons, ops_cons_gd, stages_nil, stages_cons_n, stages_cons_h, recheck, wantsOp, AV.same, sames, evalOp_p, evalOp_r, evalOp_a, evalOp_call, evalOp_callV, evalOp_store, evalOp_append, evalOp_clear, evalOp_mapUpdate, evalOp_delete, pP_move, pP_pick, pP_build, pP_nil_ptr, pP_nil_func, pP_bin, pP_eq, pP_neg, pP_inv, pP_not, pP_convInt, pP_convStr, pP_fieldAddr, pP_field, pP_indexAddr, pP_indexStr, pP_sliceStr, pP_sliceSl, pP_lenStr, pP_lenNil, pP_lenSl, pP_min, pP_max, pP_extract, pP_mkfn, bV_add, bV_sub, bV_mul, bV_quo, bV_rem, bV_and, bV_or, bV_xor, bV_andNot, bV_eql, bV_neq, bV_lss, bV_leq, bV_gtr, bV_geq, bV_shl, bV_shr, bV_str, eV_bool, eV_nn, eV_np, eV_pn, eV_snn, eV_sns, eV_ssn, eV_mnn, eV_mnm, eV_mmn, eV_fnn, eV_fnf, eV_ffn, eV_agg, rP_load, rP_lenNil, rP_str0, rdEl_K, rdK_row, aP_alloc, aP_box, aP_buildSlice, aP_makeSlice, aP_makeMap, aP_toBytes, hP_store, storeK_some, st_K, stK_row, stE_some, cells_agg, cells_bool, scalar_bool, cells_int, scalar_int, cells_str, scalar_str, cells_nilptr, scalar_nilptr, cells_ptr, scalar_ptr, cells_nilslice, scalar_nilslice, cells_slice, scalar_slice, cells_nilmap, scalar_nilmap, cells_map, scalar_map, cells_nilfunc, scalar_nilfunc, cells_func, scalar_func, eqCells, eqLeaf, run_toL, toL_some, ev_toL, getD_toL, put_toL, keep_toL, asc, fput_same, fput_ne, fbase_nil, fbase_cons, fkeep_nil, fkeep_cons, fzero, fnone, List.map_cons, List.map_nil, ev_lit, put_none, resVals, resVal, resOf, partV, fillA, putCells, fillEls, strBin, minV, optNat, appendEls, elsOf, sliceSlV, sliceStrV, List.replicate, List.getElem?_append_left, List.getElem?_append_right, List.set_append_left, List.set_append_right, List.getElem?_set_self, List.getElem?_set_ne, hq_get0, hq_get, hq_get2, hq_get3, hp_get0, hp_get, hp_get2, hp_get3, hp_set0, hp_set, hp_set2, hp_set3, wr_0, wr_1, wr_2, wr_3, wr_4, wr_n1, e2_10, ex2, q1, q2, q3, q4, q5, q6, lv, d5, d5', h5, n1, n2, sv.1, sv.2]
  repeat (first | apply yld_endFn | apply yld_seqK | apply yld_blockK | apply yld_regK | apply yld_opsK | apply yld_putK | apply yld_stgK | apply yld_chkK)
  refine sendA_loop (by simp [sf9, loopsAll]) hn hm w0 (Bo.fresh xk yk 1 2) rfl rfl rfl rfl hv1 t1 (by rfl) (by rfl) (by rfl) (by rfl) (by rfl) (by rfl) (by rfl) (by rfl) ?_
  intro f k A va uv U l f0 f1 f2 f7 f8 f9 f10 w b hl h4 h5 h6 hv2 ou hU hup tA
  have su := ou.cells
  have su2 := ou.scalar
  simp [yld_some, exec_reg, exec_dreg, exec_seq, exec_cond, exec_block, exec_scope, exec_exit, exec_ret, exec_skip, exec_loop, ops_nil, ops_cons, ops_cons_gd, stages_nil, stages_cons_n, stages_cons_h, recheck, wantsOp, AV.same, sames, evalOp_p, evalOp_r, evalOp_a, evalOp_call, evalOp_callV, evalOp_store, evalOp_append, evalOp_clear, evalOp_mapUpdate, evalOp_delete, pP_move, pP_pick, pP_build, pP_nil_ptr, pP_nil_func, pP_bin, pP_eq, pP_neg, pP_inv, pP_not, pP_convInt, pP_convStr, pP_fieldAddr, pP_field, pP_indexAddr, pP_indexStr, pP_sliceStr, pP_sliceSl, pP_lenStr, pP_lenNil, pP_lenSl, pP_min, pP_max, pP_extract, pP_mkfn, bV_add, bV_sub, bV_mul, bV_quo, bV_rem, bV_and, bV_or, bV_xor, bV_andNot, bV_eql, bV_neq, bV_lss, bV_leq, bV_gtr, bV_geq, bV_shl, bV_shr, bV_str, eV_bool, eV_nn, eV_np, eV_pn, eV_snn, eV_sns, eV_ssn, eV_mnn, eV_mnm, eV_mmn, eV_fnn, eV_fnf, eV_ffn, eV_agg, rP_load, rP_lenNil, rP_str0, rdEl_K, rdK_row, aP_alloc, aP_box, aP_buildSlice, aP_makeSlice, aP_makeMap, aP_toBytes, hP_store, storeK_some, st_K, stK_row, stE_some, cells_agg, cells_bool, scalar_bool, cells_int, scalar_int, cells_str, scalar_str, cells_nilptr, scalar_nilptr, cells_ptr, scalar_ptr, cells_nilslice, scalar_nilslice, cells_slice, scalar_slice, cells_nilmap, scalar_nilmap, cells_map, scalar_map, cells_nilfunc, scalar_nilfunc, cells_func, scalar_func, eqCells, eqLeaf, run_toL, toL_some, ev_toL, getD_toL, put_toL, keep_toL, asc, fput_same, fput_ne, fbase_nil, fbase_cons, fkeep_nil, fkeep_cons, fzero, fnone, List.map_cons, List.map_nil, ev_lit, put_none, resVals, resVal, resOf, partV, fillA, putCells, fillEls, strBin, minV, optNat, appendEls, elsOf, sliceSlV, sliceStrV, List.replicate, List.getElem?_append_left, List.getElem?_append_right, List.set_append_left, List.set_append_right, List.getElem?_set_self, List.getElem?_set_ne, hq_get0, hq_get, hq_get2, hq_get3, hp_get0, hp_get, hp_get2, hp_get3, hp_set0, hp_set, hp_set2, hp_set3, wr_0, wr_1, wr_2, wr_3, wr_4, wr_n1, f0, f1, f2, f7, f8, f9, f10, sv.1, sv.2, su, su2]
  repeat (first | apply yld_endFn | apply yld_seqK | apply yld_blockK | apply yld_regK | apply yld_opsK | apply yld_putK | apply yld_stgK | apply yld_chkK)
  refine sendB_loop (by simp [sf9, loopsAll]) hn hm w b hl h4 h5 h6 hv2 ou t2 (by simp [fput, f0]) (by simp [fput, f1]) (by simp [fput, f2]) (by simp [fput, f7]) (by simp [fput, f8]) (by simp [fput, f9]) (by simp [fput, f10]) (by rfl) ?_
  intro f k B vb dv D l f0 f1 f2 f7 f8 f9 f10 w b hl h4 h5 h6 hv2 ou od hD hupD tB
  have sd := od.cells
  have sd2 := od.scalar
  simp [yld_some, exec_reg, exec_dreg, exec_seq, exec_cond, exec_block, exec_scope, exec_exit, exec_ret, exec_skip, exec_loop, ops_nil, ops_cons, ops_cons_gd, stages_nil, stages_cons_n, stages_cons_h, recheck, wantsOp, AV.same, sames, evalOp_p, evalOp_r, evalOp_a, evalOp_call, evalOp_callV, evalOp_store, evalOp_append, evalOp_clear, evalOp_mapUpdate, evalOp_delete, pP_move, pP_pick, pP_build, pP_nil_ptr, pP_nil_func, pP_bin, pP_eq, pP_neg, pP_inv, pP_not, pP_convInt, pP_convStr, pP_fieldAddr, pP_field, pP_indexAddr, pP_indexStr, pP_sliceStr, pP_sliceSl, pP_lenStr, pP_lenNil, pP_lenSl, pP_min, pP_max, pP_extract, pP_mkfn, bV_add, bV_sub, bV_mul, bV_quo, bV_rem, bV_and, bV_or, bV_xor, bV_andNot, bV_eql, bV_neq, bV_lss, bV_leq, bV_gtr, bV_geq, bV_shl, bV_shr, bV_str, eV_bool, eV_nn, eV_np, eV_pn, eV_snn, eV_sns, eV_ssn, eV_mnn, eV_mnm, eV_mmn, eV_fnn, eV_fnf, eV_ffn, eV_agg, rP_load, rP_lenNil, rP_str0, rdEl_K, rdK_row, aP_alloc, aP_box, aP_buildSlice, aP_makeSlice, aP_makeMap, aP_toBytes, hP_store, storeK_some, st_K, stK_row, stE_some, cells_agg, cells_bool, scalar_bool, cells_int, scalar_int, cells_str, scalar_str, cells_nilptr, scalar_nilptr, cells_ptr, scalar_ptr, cells_nilslice, scalar_nilslice, cells_slice, scalar_slice, cells_nilmap, scalar_nilmap, cells_map, scalar_map, cells_nilfunc, scalar_nilfunc, cells_func, scalar_func, eqCells, eqLeaf, run_toL, toL_some, ev_toL, getD_toL, put_toL, keep_toL, asc, fput_same, fput_ne, fbase_nil, fbase_cons, fkeep_nil, fkeep_cons, fzero, fnone, List.map_cons, List.map_nil, ev_lit, put_none, resVals, resVal, resOf, partV, fillA, putCells, fillEls, strBin, minV, optNat, appendEls, elsOf, sliceSlV, sliceStrV, List.replicate, List.getElem?_append_left, List.getElem?_append_right, List.set_append_left, List.set_append_right, List.getElem?_set_self, List.getElem?_set_ne, hq_get0, hq_get, hq_get2, hq_get3, hp_get0, hp_get, hp_get2, hp_get3, hp_set0, hp_set, hp_set2, hp_set3, wr_0, wr_1, wr_2, wr_3, wr_4, wr_n1, f0, f1, f2, f7, f8, f9, f10, sv.1, sv.2, su, su2, sd, sd2, lv]
  repeat (first | apply yld_endFn | apply yld_seqK | apply yld_blockK | apply yld_regK | apply yld_opsK | apply yld_putK | apply yld_stgK | apply yld_chkK)
  refine rand_loop (by simp [sf9, loopsAll]) hn hm (by omega) w b hl h4 h5 h6 hv2 ou od hU hD hup hupD tA tB (by simp [fput, f0]) (by simp [fput, f1]) (by simp [fput, f7]) (by simp [fput, f8]) (by simp [fput, f9]) (by simp [fput, f10]) (by rfl) (by rfl) (by rfl) (by rfl) (by rfl) ?_
  intro f k A B R L ca cb qa qb va vb rv lv' l f0 f1 f7 f8 f13 f14 w b tA tB
  have sr := w.r.cells
  have sr2 := w.r.scalar
  have sl := w.l.cells
  have sl2 := w.l.scalar
  simp [yld_some, exec_reg, exec_dreg, exec_seq, exec_cond, exec_block, exec_scope, exec_exit, exec_ret, exec_skip, exec_loop, ops_nil, ops_cons, ops_cons_gd, stages_nil, stages_cons_n, stages_cons_h, recheck, wantsOp, AV.same, sames, evalOp_p, evalOp_r, evalOp_a, evalOp_call, evalOp_callV, evalOp_store, evalOp_append, evalOp_clear, evalOp_mapUpdate, evalOp_delete, pP_move, pP_pick, pP_build, pP_nil_ptr, pP_nil_func, pP_bin, pP_eq, pP_neg, pP_inv, pP_not, pP_convInt, pP_convStr, pP_fieldAddr, pP_field, pP_indexAddr, pP_indexStr, pP_sliceStr, pP_sliceSl, pP_lenStr, pP_lenNil, pP_lenSl, pP_min, pP_max, pP_extract, pP_mkfn, bV_add, bV_sub, bV_mul, bV_quo, bV_rem, bV_and, bV_or, bV_xor, bV_andNot, bV_eql, bV_neq, bV_lss, bV_leq, bV_gtr, bV_geq, bV_shl, bV_shr, bV_str, eV_bool, eV_nn, eV_np, eV_pn, eV_snn, eV_sns, eV_ssn, eV_mnn, eV_mnm, eV_mmn, eV_fnn, eV_fnf, eV_ffn, eV_agg, rP_load, rP_lenNil, rP_str0, rdEl_K, rdK_row, aP_alloc, aP_box, aP_buildSlice, aP_makeSlice, aP_makeMap, aP_toBytes, hP_store, storeK_some, st_K, stK_row, stE_some, cells_agg, cells_bool, scalar_bool, cells_int, scalar_int, cells_str, scalar_str, cells_nilptr, scalar_nilptr, cells_ptr, scalar_ptr, cells_nilslice, scalar_nilslice, cells_slice, scalar_slice, cells_nilmap, scalar_nilmap, cells_map, scalar_map, cells_nilfunc, scalar_nilfunc, cells_func, scalar_func, eqCells, eqLeaf, run_toL, toL_some, ev_toL, getD_toL, put_toL, keep_toL, asc, fput_same, fput_ne, fbase_nil, fbase_cons, fkeep_nil, fkeep_cons, fzero, fnone, List.map_cons, List.map_nil, ev_lit, put_none, resVals, resVal, resOf, partV, fillA, putCells, fillEls, strBin, minV, optNat, appendEls, elsOf, sliceSlV, sliceStrV, List.replicate, List.getElem?_append_left, List.getElem?_append_right, List.set_append_left, List.set_append_right, List.getElem?_set_self, List.getElem?_set_ne, hq_get0, hq_get, hq_get2, hq_get3, hp_get0, hp_get, hp_get2, hp_get3, hp_set0, hp_set, hp_set2, hp_set3, wr_0, wr_1, wr_2, wr_3, wr_4, wr_n1, f0, f1, f7, f8, f13, f14, sr, sr2, sl, sl2]
  repeat (first | apply yld_endFn | apply yld_seqK | apply yld_blockK | apply yld_regK | apply yld_opsK | apply yld_putK | apply yld_stgK | apply yld_chkK)
  refine tick_loop (by simp [sf9, loopsAll]) hn hm w.cut b (by have := w.len; simp; omega) tA tB (by simp [fput, f0]) (by simp [fput, f1]) (by simp [fput, f7]) (by simp [fput, f8]) (by simp [fput, f13]) (by simp [fput, f14]) (by rfl) ?_
  intro f k A B R L ca cb qa qb va vb rv lv' l f0 f1 f7 f8 f13 f14 w b wA wB
  have e1 := b.waits.nil wA
  have e2 := b.waits'.nil wB
  have i1 := b.kept'.cn
  have i2 := b.kept.cn
  have i3 := b.q
  have i4 := b.q'
  have ec : cb = n := by omega
  have ed : ca = m := by omega
  subst ec
  subst ed
  have kA := b.kept.full
  have kB := b.kept'.full
  have or := w.r
  have ol := w.l
  rw [b.told] at or
  rw [b.told'] at ol
  have r1 := rest_call w.a
  have r2 := rest_call w.b
  rw [wA, kA] at r1
  rw [wB, kB] at r2
  have lr := own_len or
  have ll := own_len ol
  have x1 : (lts (seg xk 0 cb)).length = cb := by simp [lts, seg_len]
  have x2 : (lts (seg yk 0 ca)).length = ca := by simp [lts, seg_len]
  rw [x1] at lr
  rw [x2] at ll
  have sr := or.cells
  have sr2 := or.scalar
  have sl := ol.cells
  have sl2 := ol.scalar
  simp at r1 r2
  simp [yld_some, exec_reg, exec_dreg, exec_seq, exec_cond, exec_block, exec_scope, exec_exit, exec_ret, exec_skip, exec_loop, ops_nil, ops_cons, ops_cons_gd, stages_nil, stages_cons_n, stages_cons_h, recheck, wantsOp, AV.same, sames, evalOp_p, evalOp_r, evalOp_a, evalOp_call, evalOp_callV, evalOp_store, evalOp_append, evalOp_clear, evalOp_mapUpdate, evalOp_delete, pP_move, pP_pick, pP_build, pP_nil_ptr, pP_nil_func, pP_bin, pP_eq, pP_neg, pP_inv, pP_not, pP_convInt, pP_convStr, pP_fieldAddr, pP_field, pP_indexAddr, pP_indexStr, pP_sliceStr, pP_sliceSl, pP_lenStr, pP_lenNil, pP_lenSl, pP_min, pP_max, pP_extract, pP_mkfn, bV_add, bV_sub, bV_mul, bV_quo, bV_rem, bV_and, bV_or, bV_xor, bV_andNot, bV_eql, bV_neq, bV_lss, bV_leq, bV_gtr, bV_geq, bV_shl, bV_shr, bV_str, eV_bool, eV_nn, eV_np, eV_pn, eV_snn, eV_sns, eV_ssn, eV_mnn, eV_mnm, eV_mmn, eV_fnn, eV_fnf, eV_ffn, eV_agg, rP_load, rP_lenNil, rP_str0, rdEl_K, rdK_row, aP_alloc, aP_box, aP_buildSlice, aP_makeSlice, aP_makeMap, aP_toBytes, hP_store, storeK_some, st_K, stK_row, stE_some, cells_agg, cells_bool, scalar_bool, cells_int, scalar_int, cells_str, scalar_str, cells_nilptr, scalar_nilptr, cells_ptr, scalar_ptr, cells_nilslice, scalar_nilslice, cells_slice, scalar_slice, cells_nilmap, scalar_nilmap, cells_map, scalar_map, cells_nilfunc, scalar_nilfunc, cells_func, scalar_func, eqCells, eqLeaf, run_toL, toL_some, ev_toL, getD_toL, put_toL, keep_toL, asc, fput_same, fput_ne, fbase_nil, fbase_cons, fkeep_nil, fkeep_cons, fzero, fnone, List.map_cons, List.map_nil, ev_lit, put_none, resVals, resVal, resOf, partV, fillA, putCells, fillEls, strBin, minV, optNat, appendEls, elsOf, sliceSlV, sliceStrV, List.replicate, List.getElem?_append_left, List.getElem?_append_right, List.set_append_left, List.set_append_right, List.getElem?_set_self, List.getElem?_set_ne, hq_get0, hq_get, hq_get2, hq_get3, hp_get0, hp_get, hp_get2, hp_get3, hp_set0, hp_set, hp_set2, hp_set3, wr_0, wr_1, wr_2, wr_3, wr_4, wr_n1, f0, f1, f7, f8, f13, f14, sr, sr2, sl, sl2, lr, ll, r1, r2]
  repeat (first | apply yld_endFn | apply yld_seqK | apply yld_blockK | apply yld_regK | apply yld_opsK | apply yld_putK | apply yld_stgK | apply yld_chkK)
  refine right_loop (by simp [sf9, loopsAll]) hn or ⟨sl, sl2⟩ (by simp [fput, f13]) (by simp [fput, f14]) (by rfl) (by rfl) ?_
  intro f f13
  simp [yld_some, exec_reg, exec_dreg, exec_seq, exec_cond, exec_block, exec_scope, exec_exit, exec_ret, exec_skip, exec_loop, ops_nil, ops_cons, ops_cons_gd, stages_nil, stages_cons_n, stages_cons_h, recheck, wantsOp, AV.same, sames, evalOp_p, evalOp_r, evalOp_a, evalOp_call, evalOp_callV, evalOp_store, evalOp_append, evalOp_clear, evalOp_mapUpdate, evalOp_delete, pP_move, pP_pick, pP_build, pP_nil_ptr, pP_nil_func, pP_bin, pP_eq, pP_neg, pP_inv, pP_not, pP_convInt, pP_convStr, pP_fieldAddr, pP_field, pP_indexAddr, pP_indexStr, pP_sliceStr, pP_sliceSl, pP_lenStr, pP_lenNil, pP_lenSl, pP_min, pP_max, pP_extract, pP_mkfn, bV_add, bV_sub, bV_mul, bV_quo, bV_rem, bV_and, bV_or, bV_xor, bV_andNot, bV_eql, bV_neq, bV_lss, bV_leq, bV_gtr, bV_geq, bV_shl, bV_shr, bV_str, eV_bool, eV_nn, eV_np, eV_pn, eV_snn, eV_sns, eV_ssn, eV_mnn, eV_mnm, eV_mmn, eV_fnn, eV_fnf, eV_ffn, eV_agg, rP_load, rP_lenNil, rP_str0, rdEl_K, rdK_row, aP_alloc, aP_box, aP_buildSlice, aP_makeSlice, aP_makeMap, aP_toBytes, hP_store, storeK_some, st_K, stK_row, stE_some, cells_agg, cells_bool, scalar_bool, cells_int, scalar_int, cells_str, scalar_str, cells_nilptr, scalar_nilptr, cells_ptr, scalar_ptr, cells_nilslice, scalar_nilslice, cells_slice, scalar_slice, cells_nilmap, scalar_nilmap, cells_map, scalar_map, cells_nilfunc, scalar_nilfunc, cells_func, scalar_func, eqCells, eqLeaf, run_toL, toL_some, ev_toL, getD_toL, put_toL, keep_toL, asc, fput_same, fput_ne, fbase_nil, fbase_cons, fkeep_nil, fkeep_cons, fzero, fnone, List.map_cons, List.map_nil, ev_lit, put_none, resVals, resVal, resOf, partV, fillA, putCells, fillEls, strBin, minV, optNat, appendEls, elsOf, sliceSlV, sliceStrV, List.replicate, List.getElem?_append_left, List.getElem?_append_right, List.set_append_left, List.set_append_right, List.getElem?_set_self, List.getElem?_set_ne, hq_get0, hq_get, hq_get2, hq_get3, hp_get0, hp_get, hp_get2, hp_get3, hp_set0, hp_set, hp_set2, hp_set3, wr_0, wr_1, wr_2, wr_3, wr_4, wr_n1, f13, sl, sl2, ll]
  repeat (first | apply yld_endFn | apply yld_seqK | apply yld_blockK | apply yld_regK | apply yld_opsK | apply yld_putK | apply yld_stgK | apply yld_chkK)
  refine left_loop (by simp [sf9, loopsAll]) hm ol (by simp [fput, f13]) (by rfl) (by rfl) ?_
  intro f
  simp [yld_some, exec_reg, exec_dreg, exec_seq, exec_cond, exec_block, exec_scope, exec_exit, exec_ret, exec_skip, exec_loop, ops_nil, ops_cons, ops_cons_gd, stages_nil, stages_cons_n, stages_cons_h, recheck, wantsOp, AV.same, sames, evalOp_p, evalOp_r, evalOp_a, evalOp_call, evalOp_callV, evalOp_store, evalOp_append, evalOp_clear, evalOp_mapUpdate, evalOp_delete, pP_move, pP_pick, pP_build, pP_nil_ptr, pP_nil_func, pP_bin, pP_eq, pP_neg, pP_inv, pP_not, pP_convInt, pP_convStr, pP_fieldAddr, pP_field, pP_indexAddr, pP_indexStr, pP_sliceStr, pP_sliceSl, pP_lenStr, pP_lenNil, pP_lenSl, pP_min, pP_max, pP_extract, pP_mkfn, bV_add, bV_sub, bV_mul, bV_quo, bV_rem, bV_and, bV_or, bV_xor, bV_andNot, bV_eql, bV_neq, bV_lss, bV_leq, bV_gtr, bV_geq, bV_shl, bV_shr, bV_str, eV_bool, eV_nn, eV_np, eV_pn, eV_snn, eV_sns, eV_ssn, eV_mnn, eV_mnm, eV_mmn, eV_fnn, eV_fnf, eV_ffn, eV_agg, rP_load, rP_lenNil, rP_str0, rdEl_K, rdK_row, aP_alloc, aP_box, aP_buildSlice, aP_makeSlice, aP_makeMap, aP_toBytes, hP_store, storeK_some, st_K, stK_row, stE_some, cells_agg, cells_bool, scalar_bool, cells_int, scalar_int, cells_str, scalar_str, cells_nilptr, scalar_nilptr, cells_ptr, scalar_ptr, cells_nilslice, scalar_nilslice, cells_slice, scalar_slice, cells_nilmap, scalar_nilmap, cells_map, scalar_map, cells_nilfunc, scalar_nilfunc, cells_func, scalar_func, eqCells, eqLeaf, run_toL, toL_some, ev_toL, getD_toL, put_toL, keep_toL, asc, fput_same, fput_ne, fbase_nil, fbase_cons, fkeep_nil, fkeep_cons, fzero, fnone, List.map_cons, List.map_nil, ev_lit, put_none, resVals, resVal, resOf, partV, fillA, putCells, fillEls, strBin, minV, optNat, appendEls, elsOf, sliceSlV, sliceStrV, List.replicate, List.getElem?_append_left, List.getElem?_append_right, List.set_append_left, List.set_append_right, List.getElem?_set_self, List.getElem?_set_ne, hq_get0, hq_get, hq_get2, hq_get3, hp_get0, hp_get, hp_get2, hp_get3, hp_set0, hp_set, hp_set2, hp_set3, wr_0, wr_1, wr_2, wr_3, wr_4, wr_n1]
  exact hQ' _
end Go.Proofs.Ytmbkklobijflkaa.Lk
namespace Go.Proofs.Ytmbkklobijflkaa.Pure
open Go Go.Eng
theorem LinkBoth : LawOk Try.prog 9 F.ss9 := by
  refine ⟨Lk.fs2, Lk.ex2, Lk.fs2_ok, Lk.ex2_ok, fun vs h _ hv => ?_⟩
  simp only [F.ss9, HasVs, HasV, HasF, Has] at hv
  obtain ⟨_, _, rfl, ⟨n, ha, _⟩, _, _, rfl, ⟨m, hb, _⟩, _, _, rfl, ⟨v, els, hz, hs, hbz, hm, he⟩, rfl⟩ := hv
  cases ha
  cases hb
  cases hz
  have : ∃ L : List Int, els = Lk.ints L := by
    clear hs hm hbz
    induction els with
    | nil => exact ⟨[], rfl⟩
    | cons e els ih =>
      obtain ⟨L, rfl⟩ := ih (fun x hx => he x (List.mem_cons_of_mem _ hx))
      obtain ⟨n, rfl, _⟩ := he e (List.mem_cons_self ..)
      exact ⟨n :: L, rfl⟩
  obtain ⟨L, rfl⟩ := this
  exact Lk.both_law hs n m
end Go.Proofs.Ytmbkklobijflkaa.Pure
