/- Link: LinkOnce over the engine. -/
import Derived.Test.YtmbkklobijflkaaLinkOnceA
set_option maxRecDepth 100000
set_option linter.unusedVariables false
set_option linter.unusedSimpArgs false
namespace Go.Proofs.Ytmbkklobijflkaa.Lk
open Go Go.Eng F

def Dns (cb : Nat) (D : List Pk) : Prop := ∀ p ∈ D, ∃ c0 : Nat, c0 ≤ cb ∧ p = ⟨2, 1, 0, (c0 : Int), Lt.zero⟩
theorem Ups.more {a b : Int} {x : Nat → Lt} {n n' : Nat} {U : List Pk} (h : Ups a b x n U) (hn : n ≤ n') : Ups a b x n' U := fun p hp => by obtain ⟨j, h1, h2, h3⟩ := h p hp; exact ⟨j, h1, by omega, h3⟩
theorem Ups.app {a b : Int} {x : Nat → Lt} {n : Nat} {U V : List Pk} (h : Ups a b x n U) (g : Ups a b x n V) : Ups a b x n (U ++ V) := fun p hp => by
  rcases List.mem_append.1 hp with hp | hp
  · exact h p hp
  · exact g p hp
theorem Ups.erase {a b : Int} {x : Nat → Lt} {n : Nat} {U : List Pk} (h : Ups a b x n U) (j : Nat) : Ups a b x n (U.eraseIdx j) := fun p hp => h p (List.mem_of_mem_eraseIdx hp)
theorem Dns.more {c c' : Nat} {D : List Pk} (h : Dns c D) (hc : c ≤ c') : Dns c' D := fun p hp => by obtain ⟨j, h1, h2⟩ := h p hp; exact ⟨j, by omega, h2⟩
theorem Dns.erase {c : Nat} {D : List Pk} (h : Dns c D) (j : Nat) : Dns c (D.eraseIdx j) := fun p hp => h p (List.mem_of_mem_eraseIdx hp)
theorem erase_len {α : Type} (U : List α) (j : Nat) : (U.eraseIdx j).length ≤ U.length := by rw [List.length_eraseIdx]; split <;> omega
set_option maxHeartbeats 64000000 in
/-- The first loop: whatever happens. -/
theorem once_loop {lvs : List Nat} {body : SCode} (hb : (loopsAll sf7.body)[0]? = some (lvs, body)) {N : Nat} (hN : N ≤ 40) {ga ma gb mb : Nat} {kk : H} {v : AV} {xs : List Int} {l0 : List (List Nat)} {f : Nat → AV} (hxs : xs.length ≤ 200)
    (o0 : On kk l0 ga ma gb mb .nilslice .nilslice .nilslice .nilslice .nilslice v (ints xs) (Ls.fresh 1 2) (Ls.fresh 2 1) [] [] [])
    (f0 : f 0 = .int .i64 (N : Nat)) (f5 : f 5 = .ptr ga 0 0) (f6 : f 6 = .ptr gb 0 0) (f7 : f 7 = .nilslice) (f8 : f 8 = .nilslice) (f9 : f 9 = .nilslice) (f10 : f 10 = .int .i64 0) (f53 : f 53 = v) (f54 : f 54 = .int .i64 xs.length) (f55 : f 55 = .int .i64 0) {Q : (Ex × Env) × H → Prop}
    (hQ : ∀ (f' : Nat → AV) (k' : H) (A B : Ls) (R : List Lt) (n cb qa : Nat) (va vb rv : AV) (l : List (List Nat)), f' 5 = .ptr ga 0 0 → f' 6 = .ptr gb 0 0 → f' 9 = rv → f' 10 = .int .i64 (n : Nat) →
      Wd k' l ga ma gb mb va vb rv .nilslice A B R [] → Bo xk yk 1 2 n 0 A B R [] 0 cb qa 0 → n ≤ 40 → Tw 200 A → Q ((.exit 0, toL 241 f'), k')) :
    Yld (itw (fun env => exec (call fs2 ex2) itw body (keepFrom lvs 0 env)) (toL 241 f) kk) Q := by
  simp [sf7, loopsAll] at hb
  obtain ⟨rfl, rfl⟩ := hb
  have sv : v.cells = some [v] ∧ v.scalar = true := slOf_cells o0.v
  refine yld_rounds (fun z e k => ∃ (f : Nat → AV) (i : Nat) (A B : Ls) (R : List Lt) (n cb qa : Nat) (va vb rv uv dv : AV) (U D : List Pk) (l : List (List Nat)), e = toL 241 f ∧ z = xs.length - i ∧ i ≤ xs.length ∧ On k l ga ma gb mb va vb rv uv dv v (ints xs) A B R U D ∧ Bo xk yk 1 2 n 0 A B R [] 0 cb qa 0 ∧ n ≤ N ∧
    Ups 1 2 xk n U ∧ Dns cb D ∧ U.length ≤ 50 * i ∧ D.length ≤ i ∧ Tw i A ∧ f 0 = .int .i64 (N : Nat) ∧ f 5 = .ptr ga 0 0 ∧ f 6 = .ptr gb 0 0 ∧ f 7 = uv ∧ f 8 = dv ∧ f 9 = rv ∧ f 10 = .int .i64 (n : Nat) ∧ f 53 = v ∧ f 54 = .int .i64 xs.length ∧ f 55 = .int .i64 (i : Nat)) (xs.length - 0) ?_ ?_
  · exact ⟨f, 0, _, _, [], 0, 0, 0, .nilslice, .nilslice, .nilslice, .nilslice, .nilslice, [], [], l0, rfl, rfl, Nat.zero_le _, o0, Bo.fresh xk yk 1 2, Nat.zero_le _, by simp [Ups], by simp [Dns], by simp, by simp, ⟨by simp [Ls.fresh], by simp [Ls.fresh]⟩, f0, f5, f6, f7, f8, f9, f10, f53, f54, f55⟩
  · clear f0 f5 f6 f7 f8 f9 f10 f53 f54 f55 o0
    rintro J Q' hJ hQ' z e k ⟨f, i, A, B, R, n, cb, qa, va, vb, rv, uv, dv, U, D, l, rfl, rfl, hi, o, b, hnN, upU, dnD, hU, hD, tA, f0, f5, f6, f7, f8, f9, f10, f53, f54, f55⟩
    have lu := own_len o.u
    have ld := own_len o.d
    have plU : (pks U).length = U.length := by simp [pks]
    have plD : (pks D).length = D.length := by simp [pks]
    rw [plU] at lu
    rw [plD] at ld
    have sr := o.w.r.cells
    have sr2 := o.w.r.scalar
    have su := o.u.cells
    have su2 := o.u.scalar
    have sd := o.d.cells
    have sd2 := o.d.scalar
    by_cases hil : i < xs.length
    · have d0 : decide ((i : Int) < ((xs.length : Nat) : Int)) = true := dec_true (by omega)
      have s5 := add_one (i := i) (by omega)
      obtain ⟨pb, ip, gp⟩ := sl_idx o.v (i := i) (by rw [ints_len]; exact hil)
      rw [ints_get] at gp
      generalize xs[i] = a at gp
      have sa := b.sizes (by omega) (by omega)
      have sb := b.symm.sizes (by omega) (by omega)
      have hcn := b.kept'.cn
      have hR : R.length ≤ 40 := by rw [b.told, seg_len]; omega
      have fin : ∀ (f' : Nat → AV) (k' : H) (A' B' : Ls) (R' : List Lt) (n' cb' qa' : Nat) (va' vb' rv' uv' dv' : AV) (U' D' : List Pk) (l' : List (List Nat)), On k' l' ga ma gb mb va' vb' rv' uv' dv' v (ints xs) A' B' R' U' D' → Bo xk yk 1 2 n' 0 A' B' R' [] 0 cb' qa' 0 → n' ≤ N →
          Ups 1 2 xk n' U' → Dns cb' D' → U'.length ≤ 50 * (i + 1) → D'.length ≤ i + 1 → Tw (i + 1) A' → f' 0 = .int .i64 (N : Nat) → f' 5 = .ptr ga 0 0 → f' 6 = .ptr gb 0 0 → f' 7 = uv' → f' 8 = dv' → f' 9 = rv' → f' 10 = .int .i64 (n' : Nat) → f' 53 = v → f' 54 = .int .i64 xs.length → f' 55 = .int .i64 ((i + 1 : Nat) : Int) → ∃ z, z < xs.length - i ∧ J z (toL 241 f') k' :=
        fun f' k' A' B' R' n' cb' qa' va' vb' rv' uv' dv' U' D' l' h1 h2 h3 h4 h5 h6 h7 h8 q0 q5 q6 q7 q8 q9 q10 q53 q54 q55 => ⟨xs.length - (i + 1), by omega, hJ _ _ _ ⟨f', i + 1, A', B', R', n', cb', qa', va', vb', rv', uv', dv', U', D', l', rfl, rfl, hil, h1, h2, h3, h4, h5, h6, h7, h8, q0, q5, q6, q7, q8, q9, q10, q53, q54, q55⟩⟩
      obtain ⟨w, hw, s0⟩ := and_seven a
      -- a letter is sent
      have send : (w = 0 ∨ w = 1) → n < N → ∃ k1 va' uv' k2 l', call fs2 ex2 15 [.ptr ga 0 0, .agg (xk (n + 1)).av] k = some (.agg (Pk.av ⟨1, 2, ((n + 1 : Nat) : Int), ((0 : Nat) : Int), xk (n + 1)⟩), k1) ∧ appendV 25 false uv (.slice k1.length 25 0 1 1 true) (k1 ++ [.row 25 [Pk.av ⟨1, 2, ((n + 1 : Nat) : Int), ((0 : Nat) : Int), xk (n + 1)⟩] true true]) = some (uv', k2) ∧
          On k2 l' ga ma gb mb va' vb rv uv' dv v (ints xs) (A.send (xk (n + 1))) B R (U ++ [⟨1, 2, ((n + 1 : Nat) : Int), ((0 : Nat) : Int), xk (n + 1)⟩]) D ∧ Bo xk yk 1 2 (n + 1) 0 (A.send (xk (n + 1))) B R [] 0 cb qa 0 ∧ Tw (i + 1) (A.send (xk (n + 1))) := by
        intro _ hlt
        obtain ⟨b2, hw2⟩ := b.send (by omega)
        obtain ⟨k1, va', uv', k2, l', e1, e2, o2⟩ := o.send (by omega) (by omega) (xk (n + 1)) (p := ⟨1, 2, ((n + 1 : Nat) : Int), ((0 : Nat) : Int), xk (n + 1)⟩) (by rw [b.me, b.peer, hw2, b.came]; simp)
        refine ⟨k1, va', uv', k2, l', e1, e2, o2, b2, ⟨by have := tA.now; simp only [Ls.send]; omega, fun w hw => ?_⟩⟩
        have hnow := tA.now
        simp only [Ls.send, List.mem_append, List.mem_singleton] at hw ⊢
        rcases hw with hw | rfl
        · exact tA.at0 w hw
        · simp only; omega
      have ups1 : Ups 1 2 xk (n + 1) (U ++ [⟨1, 2, ((n + 1 : Nat) : Int), ((0 : Nat) : Int), xk (n + 1)⟩]) := (upU.more (by omega)).app (fun p hp => by simp only [List.mem_singleton] at hp; exact ⟨n + 1, by omega, by omega, hp⟩)
      match w, hw, s0, send with
      | 0, _, s0, send =>
        have s0 : binV .and (.int .i64 a) (.int .i64 7) = some (.int .i64 0) := s0
        by_cases hlt : n < N
        · have d1 : decide ((n : Int) < (N : Nat)) = true := dec_true (by omega)
          have s6 := add_one (i := n) (by omega)
          obtain ⟨k1, va', uv', k2, l', e1, e2, o2, b2, t2⟩ := send (.inl rfl) hlt
          simp only [xk, Lt.av, Pk.av, Lt.zero, Int.natCast_zero] at e1 e2
          generalize hn1 : n + 1 = n1 at *
          simp [yld_some, exec_reg, exec_dreg, exec_seq, exec_cond, exec_block, exec_scope, exec_exit, exec_ret, exec_skip, exec_loop, ops_nil, ops_cons, ops_cons_gd, stages_nil, stages_cons_n, stages_cons_h, recheck, wantsOp, AV.same, sames, evalOp_p, evalOp_r, evalOp_a, evalOp_call, evalOp_callV, evalOp_store, evalOp_append, evalOp_clear, evalOp_mapUpdate, evalOp_delete, pP_move, pP_pick, pP_build, pP_nil_ptr, pP_nil_func, pP_bin, pP_eq, pP_neg, pP_inv, pP_not, pP_convInt, pP_convStr, pP_fieldAddr, pP_field, pP_indexAddr, pP_indexStr, pP_sliceStr, pP_sliceSl, pP_lenStr, pP_lenNil, pP_lenSl, pP_min, pP_max, pP_extract, pP_mkfn, bV_sub, bV_mul, bV_quo, bV_or, bV_xor, bV_andNot, bV_eql, bV_neq, bV_lss, bV_leq, bV_gtr, bV_geq, bV_shl, bV_str, eV_bool, eV_nn, eV_np, eV_pn, eV_snn, eV_sns, eV_ssn, eV_mnn, eV_mnm, eV_mmn, eV_fnn, eV_fnf, eV_ffn, eV_agg, rP_load, rP_lenNil, rP_str0, rdEl_K, rdK_row, aP_alloc, aP_box, aP_buildSlice, aP_makeSlice, aP_makeMap, aP_toBytes, hP_store, storeK_some, st_K, stK_row, stE_some, cells_agg, cells_bool, scalar_bool, cells_int, scalar_int, cells_str, scalar_str, cells_nilptr, scalar_nilptr, cells_ptr, scalar_ptr, cells_nilslice, scalar_nilslice, cells_slice, scalar_slice, cells_nilmap, scalar_nilmap, cells_map, scalar_map, cells_nilfunc, scalar_nilfunc, cells_func, scalar_func, eqCells, eqLeaf, run_toL, toL_some, ev_toL, getD_toL, put_toL, keep_toL, asc, fput_same, fput_ne, fbase_nil, fbase_cons, fkeep_nil, fkeep_cons, fzero, fnone, List.map_cons, List.map_nil, ev_lit, put_none, resVals, resVal, resOf, partV, fillA, putCells, fillEls, strBin, minV, optNat, appendEls, elsOf, sliceSlV, sliceStrV, List.replicate, List.getElem?_append_left, List.getElem?_append_right, List.set_append_left, List.set_append_right, List.getElem?_set_self, List.getElem?_set_ne, f0, f5, f6, f7, f8, f9, f10, f53, f54, f55, d0, hil, ip, gp, s0, s5, s6, d1, hlt, e1, e2, sv.1, sv.2, su, su2, sd, sd2, sr, sr2]
          exact fin _ k2 _ _ _ n1 cb qa va' vb rv uv' dv _ _ l' o2 b2 (by omega) ups1 dnD (by simp; omega) (by omega) t2 rfl rfl rfl rfl rfl rfl rfl rfl rfl rfl
        · have d1 : decide ((n : Int) < (N : Nat)) = false := dec_false (by omega)
          simp [yld_some, exec_reg, exec_dreg, exec_seq, exec_cond, exec_block, exec_scope, exec_exit, exec_ret, exec_skip, exec_loop, ops_nil, ops_cons, ops_cons_gd, stages_nil, stages_cons_n, stages_cons_h, recheck, wantsOp, AV.same, sames, evalOp_p, evalOp_r, evalOp_a, evalOp_call, evalOp_callV, evalOp_store, evalOp_append, evalOp_clear, evalOp_mapUpdate, evalOp_delete, pP_move, pP_pick, pP_build, pP_nil_ptr, pP_nil_func, pP_bin, pP_eq, pP_neg, pP_inv, pP_not, pP_convInt, pP_convStr, pP_fieldAddr, pP_field, pP_indexAddr, pP_indexStr, pP_sliceStr, pP_sliceSl, pP_lenStr, pP_lenNil, pP_lenSl, pP_min, pP_max, pP_extract, pP_mkfn, bV_sub, bV_mul, bV_quo, bV_or, bV_xor, bV_andNot, bV_eql, bV_neq, bV_lss, bV_leq, bV_gtr, bV_geq, bV_shl, bV_str, eV_bool, eV_nn, eV_np, eV_pn, eV_snn, eV_sns, eV_ssn, eV_mnn, eV_mnm, eV_mmn, eV_fnn, eV_fnf, eV_ffn, eV_agg, rP_load, rP_lenNil, rP_str0, rdEl_K, rdK_row, aP_alloc, aP_box, aP_buildSlice, aP_makeSlice, aP_makeMap, aP_toBytes, hP_store, storeK_some, st_K, stK_row, stE_some, cells_agg, cells_bool, scalar_bool, cells_int, scalar_int, cells_str, scalar_str, cells_nilptr, scalar_nilptr, cells_ptr, scalar_ptr, cells_nilslice, scalar_nilslice, cells_slice, scalar_slice, cells_nilmap, scalar_nilmap, cells_map, scalar_map, cells_nilfunc, scalar_nilfunc, cells_func, scalar_func, eqCells, eqLeaf, run_toL, toL_some, ev_toL, getD_toL, put_toL, keep_toL, asc, fput_same, fput_ne, fbase_nil, fbase_cons, fkeep_nil, fkeep_cons, fzero, fnone, List.map_cons, List.map_nil, ev_lit, put_none, resVals, resVal, resOf, partV, fillA, putCells, fillEls, strBin, minV, optNat, appendEls, elsOf, sliceSlV, sliceStrV, List.replicate, List.getElem?_append_left, List.getElem?_append_right, List.set_append_left, List.set_append_right, List.getElem?_set_self, List.getElem?_set_ne, f0, f5, f6, f7, f8, f9, f10, f53, f54, f55, d0, hil, ip, gp, s0, s5, d1, hlt, sv.1, sv.2, su, su2, sd, sd2, sr, sr2]
          exact fin _ k _ _ _ n cb qa va vb rv uv dv _ _ l o b hnN upU dnD (by omega) (by omega) (tA.sub (by omega) rfl (fun _ h => h)) rfl rfl rfl rfl rfl rfl rfl rfl rfl rfl
      | 1, _, s0, send =>
        have s0 : binV .and (.int .i64 a) (.int .i64 7) = some (.int .i64 1) := s0
        by_cases hlt : n < N
        · have d1 : decide ((n : Int) < (N : Nat)) = true := dec_true (by omega)
          have s6 := add_one (i := n) (by omega)
          obtain ⟨k1, va', uv', k2, l', e1, e2, o2, b2, t2⟩ := send (.inr rfl) hlt
          simp only [xk, Lt.av, Pk.av, Lt.zero, Int.natCast_zero] at e1 e2
          generalize hn1 : n + 1 = n1 at *
          simp [yld_some, exec_reg, exec_dreg, exec_seq, exec_cond, exec_block, exec_scope, exec_exit, exec_ret, exec_skip, exec_loop, ops_nil, ops_cons, ops_cons_gd, stages_nil, stages_cons_n, stages_cons_h, recheck, wantsOp, AV.same, sames, evalOp_p, evalOp_r, evalOp_a, evalOp_call, evalOp_callV, evalOp_store, evalOp_append, evalOp_clear, evalOp_mapUpdate, evalOp_delete, pP_move, pP_pick, pP_build, pP_nil_ptr, pP_nil_func, pP_bin, pP_eq, pP_neg, pP_inv, pP_not, pP_convInt, pP_convStr, pP_fieldAddr, pP_field, pP_indexAddr, pP_indexStr, pP_sliceStr, pP_sliceSl, pP_lenStr, pP_lenNil, pP_lenSl, pP_min, pP_max, pP_extract, pP_mkfn, bV_sub, bV_mul, bV_quo, bV_or, bV_xor, bV_andNot, bV_eql, bV_neq, bV_lss, bV_leq, bV_gtr, bV_geq, bV_shl, bV_str, eV_bool, eV_nn, eV_np, eV_pn, eV_snn, eV_sns, eV_ssn, eV_mnn, eV_mnm, eV_mmn, eV_fnn, eV_fnf, eV_ffn, eV_agg, rP_load, rP_lenNil, rP_str0, rdEl_K, rdK_row, aP_alloc, aP_box, aP_buildSlice, aP_makeSlice, aP_makeMap, aP_toBytes, hP_store, storeK_some, st_K, stK_row, stE_some, cells_agg, cells_bool, scalar_bool, cells_int, scalar_int, cells_str, scalar_str, cells_nilptr, scalar_nilptr, cells_ptr, scalar_ptr, cells_nilslice, scalar_nilslice, cells_slice, scalar_slice, cells_nilmap, scalar_nilmap, cells_map, scalar_map, cells_nilfunc, scalar_nilfunc, cells_func, scalar_func, eqCells, eqLeaf, run_toL, toL_some, ev_toL, getD_toL, put_toL, keep_toL, asc, fput_same, fput_ne, fbase_nil, fbase_cons, fkeep_nil, fkeep_cons, fzero, fnone, List.map_cons, List.map_nil, ev_lit, put_none, resVals, resVal, resOf, partV, fillA, putCells, fillEls, strBin, minV, optNat, appendEls, elsOf, sliceSlV, sliceStrV, List.replicate, List.getElem?_append_left, List.getElem?_append_right, List.set_append_left, List.set_append_right, List.getElem?_set_self, List.getElem?_set_ne, f0, f5, f6, f7, f8, f9, f10, f53, f54, f55, d0, hil, ip, gp, s0, s5, s6, d1, hlt, e1, e2, sv.1, sv.2, su, su2, sd, sd2, sr, sr2]
          exact fin _ k2 _ _ _ n1 cb qa va' vb rv uv' dv _ _ l' o2 b2 (by omega) ups1 dnD (by simp; omega) (by omega) t2 rfl rfl rfl rfl rfl rfl rfl rfl rfl rfl
        · have d1 : decide ((n : Int) < (N : Nat)) = false := dec_false (by omega)
          simp [yld_some, exec_reg, exec_dreg, exec_seq, exec_cond, exec_block, exec_scope, exec_exit, exec_ret, exec_skip, exec_loop, ops_nil, ops_cons, ops_cons_gd, stages_nil, stages_cons_n, stages_cons_h, recheck, wantsOp, AV.same, sames, evalOp_p, evalOp_r, evalOp_a, evalOp_call, evalOp_callV, evalOp_store, evalOp_append, evalOp_clear, evalOp_mapUpdate, evalOp_delete, pP_move, pP_pick, pP_build, pP_nil_ptr, pP_nil_func, pP_bin, pP_eq, pP_neg, pP_inv, pP_not, pP_convInt, pP_convStr, pP_fieldAddr, pP_field, pP_indexAddr, pP_indexStr, pP_sliceStr, pP_sliceSl, pP_lenStr, pP_lenNil, pP_lenSl, pP_min, pP_max, pP_extract, pP_mkfn, bV_sub, bV_mul, bV_quo, bV_or, bV_xor, bV_andNot, bV_eql, bV_neq, bV_lss, bV_leq, bV_gtr, bV_geq, bV_shl, bV_str, eV_bool, eV_nn, eV_np, eV_pn, eV_snn, eV_sns, eV_ssn, eV_mnn, eV_mnm, eV_mmn, eV_fnn, eV_fnf, eV_ffn, eV_agg, rP_load, rP_lenNil, rP_str0, rdEl_K, rdK_row, aP_alloc, aP_box, aP_buildSlice, aP_makeSlice, aP_makeMap, aP_toBytes, hP_store, storeK_some, st_K, stK_row, stE_some, cells_agg, cells_bool, scalar_bool, cells_int, scalar_int, cells_str, scalar_str, cells_nilptr, scalar_nilptr, cells_ptr, scalar_ptr, cells_nilslice, scalar_nilslice, cells_slice, scalar_slice, cells_nilmap, scalar_nilmap, cells_map, scalar_map, cells_nilfunc, scalar_nilfunc, cells_func, scalar_func, eqCells, eqLeaf, run_toL, toL_some, ev_toL, getD_toL, put_toL, keep_toL, asc, fput_same, fput_ne, fbase_nil, fbase_cons, fkeep_nil, fkeep_cons, fzero, fnone, List.map_cons, List.map_nil, ev_lit, put_none, resVals, resVal, resOf, partV, fillA, putCells, fillEls, strBin, minV, optNat, appendEls, elsOf, sliceSlV, sliceStrV, List.replicate, List.getElem?_append_left, List.getElem?_append_right, List.set_append_left, List.set_append_right, List.getElem?_set_self, List.getElem?_set_ne, f0, f5, f6, f7, f8, f9, f10, f53, f54, f55, d0, hil, ip, gp, s0, s5, d1, hlt, sv.1, sv.2, su, su2, sd, sd2, sr, sr2]
          exact fin _ k _ _ _ n cb qa va vb rv uv dv _ _ l o b hnN upU dnD (by omega) (by omega) (tA.sub (by omega) rfl (fun _ h => h)) rfl rfl rfl rfl rfl rfl rfl rfl rfl rfl
      | 2, _, s0, send =>
        have s0 : binV .and (.int .i64 a) (.int .i64 7) = some (.int .i64 2) := s0
        by_cases hU0 : 0 < U.length
        · have d1 : decide ((0 : Int) < (U.length : Nat)) = true := dec_true (by omega)
          obtain ⟨y1, r1, r2, j, s1, s2, s3, s4, hj⟩ := turn a 3 U.length hU0 (by omega)
          have s1 : binV .shr (.int .i64 a) (.int .u64 3) = some (.int .i64 y1) := s1
          obtain ⟨ub, iu, gu⟩ := own_idx o.u (i := j) (by rw [plU]; exact hj)
          rw [pks_get] at gu
          obtain ⟨jj, q1, q2, q3⟩ := upU U[j] (List.getElem_mem _)
          rw [q3] at gu
          have o1 := o.more [.row 25 [Pk.av ⟨1, 2, (jj : Int), ((0 : Nat) : Int), xk jj⟩] true true]
          obtain ⟨B', cb', t, hg, b2, hcb, htl⟩ := b.recv (by omega) q1 q2 (Nat.zero_le 0)
          obtain ⟨vo, k1, rv', k2, dv', k3, vb', l', e1, e2, e3, e4, o2⟩ := o1.recv (by omega) (by omega) (by omega) (by omega) (by omega) (by simp only; omega) hg (by omega)
          simp only [Pk.av, Int.natCast_zero, Lt.zero] at gu e1 e2 e3 e4
          simp [yld_some, exec_reg, exec_dreg, exec_seq, exec_cond, exec_block, exec_scope, exec_exit, exec_ret, exec_skip, exec_loop, ops_nil, ops_cons, ops_cons_gd, stages_nil, stages_cons_n, stages_cons_h, recheck, wantsOp, AV.same, sames, evalOp_p, evalOp_r, evalOp_a, evalOp_call, evalOp_callV, evalOp_store, evalOp_append, evalOp_clear, evalOp_mapUpdate, evalOp_delete, pP_move, pP_pick, pP_build, pP_nil_ptr, pP_nil_func, pP_bin, pP_eq, pP_neg, pP_inv, pP_not, pP_convInt, pP_convStr, pP_fieldAddr, pP_field, pP_indexAddr, pP_indexStr, pP_sliceStr, pP_sliceSl, pP_lenStr, pP_lenNil, pP_lenSl, pP_min, pP_max, pP_extract, pP_mkfn, bV_sub, bV_mul, bV_quo, bV_or, bV_xor, bV_andNot, bV_eql, bV_neq, bV_lss, bV_leq, bV_gtr, bV_geq, bV_shl, bV_str, eV_bool, eV_nn, eV_np, eV_pn, eV_snn, eV_sns, eV_ssn, eV_mnn, eV_mnm, eV_mmn, eV_fnn, eV_fnf, eV_ffn, eV_agg, rP_load, rP_lenNil, rP_str0, rdEl_K, rdK_row, aP_alloc, aP_box, aP_buildSlice, aP_makeSlice, aP_makeMap, aP_toBytes, hP_store, storeK_some, st_K, stK_row, stE_some, cells_agg, cells_bool, scalar_bool, cells_int, scalar_int, cells_str, scalar_str, cells_nilptr, scalar_nilptr, cells_ptr, scalar_ptr, cells_nilslice, scalar_nilslice, cells_slice, scalar_slice, cells_nilmap, scalar_nilmap, cells_map, scalar_map, cells_nilfunc, scalar_nilfunc, cells_func, scalar_func, eqCells, eqLeaf, run_toL, toL_some, ev_toL, getD_toL, put_toL, keep_toL, asc, fput_same, fput_ne, fbase_nil, fbase_cons, fkeep_nil, fkeep_cons, fzero, fnone, List.map_cons, List.map_nil, ev_lit, put_none, resVals, resVal, resOf, partV, fillA, putCells, fillEls, strBin, minV, optNat, appendEls, elsOf, sliceSlV, sliceStrV, List.replicate, List.getElem?_append_left, List.getElem?_append_right, List.set_append_left, List.set_append_right, List.getElem?_set_self, List.getElem?_set_ne, f0, f5, f6, f7, f8, f9, f10, f53, f54, f55, d0, hil, ip, gp, s0, s1, s2, s3, s4, s5, lu, d1, hU0, iu, gu, e1, e2, e3, get_app e3, set_app e3, get_set_same e3, get_set_app e3, set_set_app e3, len_beq e3, beq_len e3, e4, sv.1, sv.2, su, su2, sd, sd2, sr, sr2]
          exact fin _ k3 _ _ _ n cb' qa va vb' rv' uv dv' _ _ l' o2 b2 hnN upU (fun p hp => by
            rcases List.mem_append.1 hp with hp | hp
            · exact dnD.more hcb p hp
            · simp only [List.mem_singleton] at hp; exact ⟨cb', Nat.le_refl _, hp⟩) (by omega) (by simp; omega) (tA.sub (by omega) rfl (fun _ h => h)) rfl rfl rfl rfl rfl rfl rfl rfl rfl rfl
        · have d1 : decide ((0 : Int) < (U.length : Nat)) = false := dec_false (by omega)
          simp [yld_some, exec_reg, exec_dreg, exec_seq, exec_cond, exec_block, exec_scope, exec_exit, exec_ret, exec_skip, exec_loop, ops_nil, ops_cons, ops_cons_gd, stages_nil, stages_cons_n, stages_cons_h, recheck, wantsOp, AV.same, sames, evalOp_p, evalOp_r, evalOp_a, evalOp_call, evalOp_callV, evalOp_store, evalOp_append, evalOp_clear, evalOp_mapUpdate, evalOp_delete, pP_move, pP_pick, pP_build, pP_nil_ptr, pP_nil_func, pP_bin, pP_eq, pP_neg, pP_inv, pP_not, pP_convInt, pP_convStr, pP_fieldAddr, pP_field, pP_indexAddr, pP_indexStr, pP_sliceStr, pP_sliceSl, pP_lenStr, pP_lenNil, pP_lenSl, pP_min, pP_max, pP_extract, pP_mkfn, bV_sub, bV_mul, bV_quo, bV_or, bV_xor, bV_andNot, bV_eql, bV_neq, bV_lss, bV_leq, bV_gtr, bV_geq, bV_shl, bV_str, eV_bool, eV_nn, eV_np, eV_pn, eV_snn, eV_sns, eV_ssn, eV_mnn, eV_mnm, eV_mmn, eV_fnn, eV_fnf, eV_ffn, eV_agg, rP_load, rP_lenNil, rP_str0, rdEl_K, rdK_row, aP_alloc, aP_box, aP_buildSlice, aP_makeSlice, aP_makeMap, aP_toBytes, hP_store, storeK_some, st_K, stK_row, stE_some, cells_agg, cells_bool, scalar_bool, cells_int, scalar_int, cells_str, scalar_str, cells_nilptr, scalar_nilptr, cells_ptr, scalar_ptr, cells_nilslice, scalar_nilslice, cells_slice, scalar_slice, cells_nilmap, scalar_nilmap, cells_map, scalar_map, cells_nilfunc, scalar_nilfunc, cells_func, scalar_func, eqCells, eqLeaf, run_toL, toL_some, ev_toL, getD_toL, put_toL, keep_toL, asc, fput_same, fput_ne, fbase_nil, fbase_cons, fkeep_nil, fkeep_cons, fzero, fnone, List.map_cons, List.map_nil, ev_lit, put_none, resVals, resVal, resOf, partV, fillA, putCells, fillEls, strBin, minV, optNat, appendEls, elsOf, sliceSlV, sliceStrV, List.replicate, List.getElem?_append_left, List.getElem?_append_right, List.set_append_left, List.set_append_right, List.getElem?_set_self, List.getElem?_set_ne, f0, f5, f6, f7, f8, f9, f10, f53, f54, f55, d0, hil, ip, gp, s0, s5, lu, d1, hU0, sv.1, sv.2, su, su2, sd, sd2, sr, sr2]
          exact fin _ k _ _ _ n cb qa va vb rv uv dv _ _ l o b hnN upU dnD (by omega) (by omega) (tA.sub (by omega) rfl (fun _ h => h)) rfl rfl rfl rfl rfl rfl rfl rfl rfl rfl
      | 3, _, s0, send =>
        have s0 : binV .and (.int .i64 a) (.int .i64 7) = some (.int .i64 3) := s0
        by_cases hU0 : 0 < U.length
        · have d1 : decide ((0 : Int) < (U.length : Nat)) = true := dec_true (by omega)
          obtain ⟨y1, r1, r2, j, s1, s2, s3, s4, hj⟩ := turn a 3 U.length hU0 (by omega)
          have s1 : binV .shr (.int .i64 a) (.int .u64 3) = some (.int .i64 y1) := s1
          have s6 := add_one (i := j) (by omega)
          obtain ⟨ub, iu, gu⟩ := own_idx o.u (i := j) (by rw [plU]; exact hj)
          rw [pks_get] at gu
          obtain ⟨jj, q1, q2, q3⟩ := upU U[j] (List.getElem_mem _)
          rw [q3] at gu
          have o1 := o.more [.row 25 [Pk.av ⟨1, 2, (jj : Int), ((0 : Nat) : Int), xk jj⟩] true true]
          obtain ⟨z1, z2, c, kc, uv', kd, lc, x1, x2, x3, x4, oc, cc⟩ := o1.cutU hj (by omega)
          have rowp : kd[k.length]? = some (.row 25 [Pk.av ⟨1, 2, (jj : Int), ((0 : Nat) : Int), xk jj⟩] true true) := cc.2 _ _ (by simp) (by simp)
          obtain ⟨B', cb', t, hg, b2, hcb, htl⟩ := b.recv (by omega) q1 q2 (Nat.zero_le 0)
          obtain ⟨vo, k1, rv', k2, dv', k3, vb', l', e1, e2, e3, e4, o2⟩ := oc.recv (by omega) (by omega) (by omega) (by omega) (by omega) (by simp only; omega) hg (by omega)
          have su3 := oc.u.cells
          have su4 := oc.u.scalar
          have hel := erase_len U j
          simp only [Pk.av, Int.natCast_zero, Lt.zero] at gu e1 e2 e3 e4 x3 x4 rowp
          generalize hj1 : j + 1 = j1 at s6 x2
          simp [yld_some, exec_reg, exec_dreg, exec_seq, exec_cond, exec_block, exec_scope, exec_exit, exec_ret, exec_skip, exec_loop, ops_nil, ops_cons, ops_cons_gd, stages_nil, stages_cons_n, stages_cons_h, recheck, wantsOp, AV.same, sames, evalOp_p, evalOp_r, evalOp_a, evalOp_call, evalOp_callV, evalOp_store, evalOp_append, evalOp_clear, evalOp_mapUpdate, evalOp_delete, pP_move, pP_pick, pP_build, pP_nil_ptr, pP_nil_func, pP_bin, pP_eq, pP_neg, pP_inv, pP_not, pP_convInt, pP_convStr, pP_fieldAddr, pP_field, pP_indexAddr, pP_indexStr, pP_sliceStr, pP_lenStr, pP_lenNil, pP_lenSl, pP_min, pP_max, pP_extract, pP_mkfn, bV_sub, bV_mul, bV_quo, bV_or, bV_xor, bV_andNot, bV_eql, bV_neq, bV_lss, bV_leq, bV_gtr, bV_geq, bV_shl, bV_str, eV_bool, eV_nn, eV_np, eV_pn, eV_snn, eV_sns, eV_ssn, eV_mnn, eV_mnm, eV_mmn, eV_fnn, eV_fnf, eV_ffn, eV_agg, rP_load, rP_lenNil, rP_str0, rdEl_K, rdK_row, aP_alloc, aP_box, aP_buildSlice, aP_makeSlice, aP_makeMap, aP_toBytes, hP_store, storeK_some, st_K, stK_row, stE_some, cells_agg, cells_bool, scalar_bool, cells_int, scalar_int, cells_str, scalar_str, cells_nilptr, scalar_nilptr, cells_ptr, scalar_ptr, cells_nilslice, scalar_nilslice, cells_slice, scalar_slice, cells_nilmap, scalar_nilmap, cells_map, scalar_map, cells_nilfunc, scalar_nilfunc, cells_func, scalar_func, eqCells, eqLeaf, run_toL, toL_some, ev_toL, getD_toL, put_toL, keep_toL, asc, fput_same, fput_ne, fbase_nil, fbase_cons, fkeep_nil, fkeep_cons, fzero, fnone, List.map_cons, List.map_nil, ev_lit, put_none, resVals, resVal, resOf, partV, fillA, putCells, fillEls, strBin, minV, optNat, appendEls, elsOf, sliceStrV, List.replicate, List.getElem?_append_left, List.getElem?_append_right, List.set_append_left, List.set_append_right, List.getElem?_set_self, List.getElem?_set_ne, f0, f5, f6, f7, f8, f9, f10, f53, f54, f55, d0, hil, ip, gp, s0, s1, s2, s3, s4, s5, s6, lu, d1, hU0, iu, gu, x1, x2, x3, x4, rowp, get_app rowp, set_app rowp, get_set_same rowp, get_set_app rowp, set_set_app rowp, len_beq rowp, beq_len rowp, e1, e2, e3, get_app e3, set_app e3, get_set_same e3, get_set_app e3, set_set_app e3, len_beq e3, beq_len e3, e4, sv.1, sv.2, su, su2, su3, su4, sd, sd2, sr, sr2]
          exact fin _ k3 _ _ _ n cb' qa va vb' rv' uv' dv' _ _ l' o2 b2 hnN (upU.erase j) (fun p hp => by
            rcases List.mem_append.1 hp with hp | hp
            · exact dnD.more hcb p hp
            · simp only [List.mem_singleton] at hp; exact ⟨cb', Nat.le_refl _, hp⟩) (by omega) (by simp; omega) (tA.sub (by omega) rfl (fun _ h => h)) rfl rfl rfl rfl rfl rfl rfl rfl rfl rfl
        · have d1 : decide ((0 : Int) < (U.length : Nat)) = false := dec_false (by omega)
          simp [yld_some, exec_reg, exec_dreg, exec_seq, exec_cond, exec_block, exec_scope, exec_exit, exec_ret, exec_skip, exec_loop, ops_nil, ops_cons, ops_cons_gd, stages_nil, stages_cons_n, stages_cons_h, recheck, wantsOp, AV.same, sames, evalOp_p, evalOp_r, evalOp_a, evalOp_call, evalOp_callV, evalOp_store, evalOp_append, evalOp_clear, evalOp_mapUpdate, evalOp_delete, pP_move, pP_pick, pP_build, pP_nil_ptr, pP_nil_func, pP_bin, pP_eq, pP_neg, pP_inv, pP_not, pP_convInt, pP_convStr, pP_fieldAddr, pP_field, pP_indexAddr, pP_indexStr, pP_sliceStr, pP_sliceSl, pP_lenStr, pP_lenNil, pP_lenSl, pP_min, pP_max, pP_extract, pP_mkfn, bV_sub, bV_mul, bV_quo, bV_or, bV_xor, bV_andNot, bV_eql, bV_neq, bV_lss, bV_leq, bV_gtr, bV_geq, bV_shl, bV_str, eV_bool, eV_nn, eV_np, eV_pn, eV_snn, eV_sns, eV_ssn, eV_mnn, eV_mnm, eV_mmn, eV_fnn, eV_fnf, eV_ffn, eV_agg, rP_load, rP_lenNil, rP_str0, rdEl_K, rdK_row, aP_alloc, aP_box, aP_buildSlice, aP_makeSlice, aP_makeMap, aP_toBytes, hP_store, storeK_some, st_K, stK_row, stE_some, cells_agg, cells_bool, scalar_bool, cells_int, scalar_int, cells_str, scalar_str, cells_nilptr, scalar_nilptr, cells_ptr, scalar_ptr, cells_nilslice, scalar_nilslice, cells_slice, scalar_slice, cells_nilmap, scalar_nilmap, cells_map, scalar_map, cells_nilfunc, scalar_nilfunc, cells_func, scalar_func, eqCells, eqLeaf, run_toL, toL_some, ev_toL, getD_toL, put_toL, keep_toL, asc, fput_same, fput_ne, fbase_nil, fbase_cons, fkeep_nil, fkeep_cons, fzero, fnone, List.map_cons, List.map_nil, ev_lit, put_none, resVals, resVal, resOf, partV, fillA, putCells, fillEls, strBin, minV, optNat, appendEls, elsOf, sliceSlV, sliceStrV, List.replicate, List.getElem?_append_left, List.getElem?_append_right, List.set_append_left, List.set_append_right, List.getElem?_set_self, List.getElem?_set_ne, f0, f5, f6, f7, f8, f9, f10, f53, f54, f55, d0, hil, ip, gp, s0, s5, lu, d1, hU0, sv.1, sv.2, su, su2, sd, sd2, sr, sr2]
          exact fin _ k _ _ _ n cb qa va vb rv uv dv _ _ l o b hnN upU dnD (by omega) (by omega) (tA.sub (by omega) rfl (fun _ h => h)) rfl rfl rfl rfl rfl rfl rfl rfl rfl rfl
      | 4, _, s0, send =>
        have s0 : binV .and (.int .i64 a) (.int .i64 7) = some (.int .i64 4) := s0
        by_cases hU0 : 0 < U.length
        · have d1 : decide ((0 : Int) < (U.length : Nat)) = true := dec_true (by omega)
          obtain ⟨y1, r1, r2, j, s1, s2, s3, s4, hj⟩ := turn a 3 U.length hU0 (by omega)
          have s1 : binV .shr (.int .i64 a) (.int .u64 3) = some (.int .i64 y1) := s1
          obtain ⟨ub, iu, gu⟩ := own_idx o.u (i := j) (by rw [plU]; exact hj)
          rw [pks_get] at gu
          obtain ⟨jj, q1, q2, q3⟩ := upU U[j] (List.getElem_mem _)
          rw [q3] at gu
          have o1 := o.more [.row 25 [Pk.av ⟨1, 2, (jj : Int), ((0 : Nat) : Int), xk jj⟩] true true]
          simp only [Pk.av, Int.natCast_zero] at gu o1
          simp [yld_some, exec_reg, exec_dreg, exec_seq, exec_cond, exec_block, exec_scope, exec_exit, exec_ret, exec_skip, exec_loop, ops_nil, ops_cons, ops_cons_gd, stages_nil, stages_cons_n, stages_cons_h, recheck, wantsOp, AV.same, sames, evalOp_p, evalOp_r, evalOp_a, evalOp_call, evalOp_callV, evalOp_store, evalOp_append, evalOp_clear, evalOp_mapUpdate, evalOp_delete, pP_move, pP_pick, pP_build, pP_nil_ptr, pP_nil_func, pP_bin, pP_eq, pP_neg, pP_inv, pP_not, pP_convInt, pP_convStr, pP_fieldAddr, pP_field, pP_indexAddr, pP_indexStr, pP_sliceStr, pP_sliceSl, pP_lenStr, pP_lenNil, pP_lenSl, pP_min, pP_max, pP_extract, pP_mkfn, bV_sub, bV_mul, bV_quo, bV_or, bV_xor, bV_andNot, bV_eql, bV_neq, bV_lss, bV_leq, bV_gtr, bV_geq, bV_shl, bV_str, eV_bool, eV_nn, eV_np, eV_pn, eV_snn, eV_sns, eV_ssn, eV_mnn, eV_mnm, eV_mmn, eV_fnn, eV_fnf, eV_ffn, eV_agg, rP_load, rP_lenNil, rP_str0, rdEl_K, rdK_row, aP_alloc, aP_box, aP_buildSlice, aP_makeSlice, aP_makeMap, aP_toBytes, hP_store, storeK_some, st_K, stK_row, stE_some, cells_agg, cells_bool, scalar_bool, cells_int, scalar_int, cells_str, scalar_str, cells_nilptr, scalar_nilptr, cells_ptr, scalar_ptr, cells_nilslice, scalar_nilslice, cells_slice, scalar_slice, cells_nilmap, scalar_nilmap, cells_map, scalar_map, cells_nilfunc, scalar_nilfunc, cells_func, scalar_func, eqCells, eqLeaf, run_toL, toL_some, ev_toL, getD_toL, put_toL, keep_toL, asc, fput_same, fput_ne, fbase_nil, fbase_cons, fkeep_nil, fkeep_cons, fzero, fnone, List.map_cons, List.map_nil, ev_lit, put_none, resVals, resVal, resOf, partV, fillA, putCells, fillEls, strBin, minV, optNat, appendEls, elsOf, sliceSlV, sliceStrV, List.replicate, List.getElem?_append_left, List.getElem?_append_right, List.set_append_left, List.set_append_right, List.getElem?_set_self, List.getElem?_set_ne, f0, f5, f6, f7, f8, f9, f10, f53, f54, f55, d0, hil, ip, gp, s0, s1, s2, s3, s4, s5, lu, d1, hU0, iu, gu, sv.1, sv.2, su, su2, sd, sd2, sr, sr2]
          exact fin _ _ _ _ _ n cb qa va vb rv uv dv _ _ l o1 b hnN upU dnD (by omega) (by omega) (tA.sub (by omega) rfl (fun _ h => h)) rfl rfl rfl rfl rfl rfl rfl rfl rfl rfl
        · have d1 : decide ((0 : Int) < (U.length : Nat)) = false := dec_false (by omega)
          simp [yld_some, exec_reg, exec_dreg, exec_seq, exec_cond, exec_block, exec_scope, exec_exit, exec_ret, exec_skip, exec_loop, ops_nil, ops_cons, ops_cons_gd, stages_nil, stages_cons_n, stages_cons_h, recheck, wantsOp, AV.same, sames, evalOp_p, evalOp_r, evalOp_a, evalOp_call, evalOp_callV, evalOp_store, evalOp_append, evalOp_clear, evalOp_mapUpdate, evalOp_delete, pP_move, pP_pick, pP_build, pP_nil_ptr, pP_nil_func, pP_bin, pP_eq, pP_neg, pP_inv, pP_not, pP_convInt, pP_convStr, pP_fieldAddr, pP_field, pP_indexAddr, pP_indexStr, pP_sliceStr, pP_sliceSl, pP_lenStr, pP_lenNil, pP_lenSl, pP_min, pP_max, pP_extract, pP_mkfn, bV_sub, bV_mul, bV_quo, bV_or, bV_xor, bV_andNot, bV_eql, bV_neq, bV_lss, bV_leq, bV_gtr, bV_geq, bV_shl, bV_str, eV_bool, eV_nn, eV_np, eV_pn, eV_snn, eV_sns, eV_ssn, eV_mnn, eV_mnm, eV_mmn, eV_fnn, eV_fnf, eV_ffn, eV_agg, rP_load, rP_lenNil, rP_str0, rdEl_K, rdK_row, aP_alloc, aP_box, aP_buildSlice, aP_makeSlice, aP_makeMap, aP_toBytes, hP_store, storeK_some, st_K, stK_row, stE_some, cells_agg, cells_bool, scalar_bool, cells_int, scalar_int, cells_str, scalar_str, cells_nilptr, scalar_nilptr, cells_ptr, scalar_ptr, cells_nilslice, scalar_nilslice, cells_slice, scalar_slice, cells_nilmap, scalar_nilmap, cells_map, scalar_map, cells_nilfunc, scalar_nilfunc, cells_func, scalar_func, eqCells, eqLeaf, run_toL, toL_some, ev_toL, getD_toL, put_toL, keep_toL, asc, fput_same, fput_ne, fbase_nil, fbase_cons, fkeep_nil, fkeep_cons, fzero, fnone, List.map_cons, List.map_nil, ev_lit, put_none, resVals, resVal, resOf, partV, fillA, putCells, fillEls, strBin, minV, optNat, appendEls, elsOf, sliceSlV, sliceStrV, List.replicate, List.getElem?_append_left, List.getElem?_append_right, List.set_append_left, List.set_append_right, List.getElem?_set_self, List.getElem?_set_ne, f0, f5, f6, f7, f8, f9, f10, f53, f54, f55, d0, hil, ip, gp, s0, s5, lu, d1, hU0, sv.1, sv.2, su, su2, sd, sd2, sr, sr2]
          exact fin _ k _ _ _ n cb qa va vb rv uv dv _ _ l o b hnN upU dnD (by omega) (by omega) (tA.sub (by omega) rfl (fun _ h => h)) rfl rfl rfl rfl rfl rfl rfl rfl rfl rfl
      | 5, _, s0, send =>
        have s0 : binV .and (.int .i64 a) (.int .i64 7) = some (.int .i64 5) := s0
        by_cases hD0 : 0 < D.length
        · have d1 : decide ((0 : Int) < (D.length : Nat)) = true := dec_true (by omega)
          obtain ⟨y1, r1, r2, j, s1, s2, s3, s4, hj⟩ := turn a 3 D.length hD0 (by omega)
          have s1 : binV .shr (.int .i64 a) (.int .u64 3) = some (.int .i64 y1) := s1
          have s6 := add_one (i := j) (by omega)
          obtain ⟨ub, iu, gu⟩ := own_idx o.d (i := j) (by rw [plD]; exact hj)
          rw [pks_get] at gu
          obtain ⟨c0, q1, q3⟩ := dnD D[j] (List.getElem_mem _)
          rw [q3] at gu
          obtain ⟨A', hg, b2, hnow, hsub⟩ := b.ack q1
          obtain ⟨vo, k1, va', l1, e1, o1⟩ := o.ack (by omega) (by omega) (by omega) (by simp only; omega) hg
          have o1' := o1.more [.row 25 [Pk.zero.av] true true]
          obtain ⟨z1, z2, c, kc, dv', kd, lc, x1, x2, x3, x4, oc, cc⟩ := o1'.cutD hj (by omega)
          have sd3 := oc.d.cells
          have sd4 := oc.d.scalar
          have hel := erase_len D j
          simp only [Pk.av, Pk.zero, Int.natCast_zero, Lt.zero] at gu e1 x3 x4
          generalize hj1 : j + 1 = j1 at s6 x2
          simp [yld_some, exec_reg, exec_dreg, exec_seq, exec_cond, exec_block, exec_scope, exec_exit, exec_ret, exec_skip, exec_loop, ops_nil, ops_cons, ops_cons_gd, stages_nil, stages_cons_n, stages_cons_h, recheck, wantsOp, AV.same, sames, evalOp_p, evalOp_r, evalOp_a, evalOp_call, evalOp_callV, evalOp_store, evalOp_append, evalOp_clear, evalOp_mapUpdate, evalOp_delete, pP_move, pP_pick, pP_build, pP_nil_ptr, pP_nil_func, pP_bin, pP_eq, pP_neg, pP_inv, pP_not, pP_convInt, pP_convStr, pP_fieldAddr, pP_field, pP_indexAddr, pP_indexStr, pP_sliceStr, pP_lenStr, pP_lenNil, pP_lenSl, pP_min, pP_max, pP_extract, pP_mkfn, bV_sub, bV_mul, bV_quo, bV_or, bV_xor, bV_andNot, bV_eql, bV_neq, bV_lss, bV_leq, bV_gtr, bV_geq, bV_shl, bV_str, eV_bool, eV_nn, eV_np, eV_pn, eV_snn, eV_sns, eV_ssn, eV_mnn, eV_mnm, eV_mmn, eV_fnn, eV_fnf, eV_ffn, eV_agg, rP_load, rP_lenNil, rP_str0, rdEl_K, rdK_row, aP_alloc, aP_box, aP_buildSlice, aP_makeSlice, aP_makeMap, aP_toBytes, hP_store, storeK_some, st_K, stK_row, stE_some, cells_agg, cells_bool, scalar_bool, cells_int, scalar_int, cells_str, scalar_str, cells_nilptr, scalar_nilptr, cells_ptr, scalar_ptr, cells_nilslice, scalar_nilslice, cells_slice, scalar_slice, cells_nilmap, scalar_nilmap, cells_map, scalar_map, cells_nilfunc, scalar_nilfunc, cells_func, scalar_func, eqCells, eqLeaf, run_toL, toL_some, ev_toL, getD_toL, put_toL, keep_toL, asc, fput_same, fput_ne, fbase_nil, fbase_cons, fkeep_nil, fkeep_cons, fzero, fnone, List.map_cons, List.map_nil, ev_lit, put_none, resVals, resVal, resOf, partV, fillA, putCells, fillEls, strBin, minV, optNat, appendEls, elsOf, sliceStrV, List.replicate, List.getElem?_append_left, List.getElem?_append_right, List.set_append_left, List.set_append_right, List.getElem?_set_self, List.getElem?_set_ne, f0, f5, f6, f7, f8, f9, f10, f53, f54, f55, d0, hil, ip, gp, s0, s1, s2, s3, s4, s5, s6, ld, d1, hD0, iu, gu, e1, x1, x2, x3, x4, sv.1, sv.2, su, su2, sd, sd2, sd3, sd4, sr, sr2]
          exact fin _ kd _ _ _ n cb _ va' vb rv uv dv' _ _ lc oc b2 hnN upU (dnD.erase j) (by omega) (by omega) (tA.sub (by omega) hnow hsub) rfl rfl rfl rfl rfl rfl rfl rfl rfl rfl
        · have d1 : decide ((0 : Int) < (D.length : Nat)) = false := dec_false (by omega)
          simp [yld_some, exec_reg, exec_dreg, exec_seq, exec_cond, exec_block, exec_scope, exec_exit, exec_ret, exec_skip, exec_loop, ops_nil, ops_cons, ops_cons_gd, stages_nil, stages_cons_n, stages_cons_h, recheck, wantsOp, AV.same, sames, evalOp_p, evalOp_r, evalOp_a, evalOp_call, evalOp_callV, evalOp_store, evalOp_append, evalOp_clear, evalOp_mapUpdate, evalOp_delete, pP_move, pP_pick, pP_build, pP_nil_ptr, pP_nil_func, pP_bin, pP_eq, pP_neg, pP_inv, pP_not, pP_convInt, pP_convStr, pP_fieldAddr, pP_field, pP_indexAddr, pP_indexStr, pP_sliceStr, pP_sliceSl, pP_lenStr, pP_lenNil, pP_lenSl, pP_min, pP_max, pP_extract, pP_mkfn, bV_sub, bV_mul, bV_quo, bV_or, bV_xor, bV_andNot, bV_eql, bV_neq, bV_lss, bV_leq, bV_gtr, bV_geq, bV_shl, bV_str, eV_bool, eV_nn, eV_np, eV_pn, eV_snn, eV_sns, eV_ssn, eV_mnn, eV_mnm, eV_mmn, eV_fnn, eV_fnf, eV_ffn, eV_agg, rP_load, rP_lenNil, rP_str0, rdEl_K, rdK_row, aP_alloc, aP_box, aP_buildSlice, aP_makeSlice, aP_makeMap, aP_toBytes, hP_store, storeK_some, st_K, stK_row, stE_some, cells_agg, cells_bool, scalar_bool, cells_int, scalar_int, cells_str, scalar_str, cells_nilptr, scalar_nilptr, cells_ptr, scalar_ptr, cells_nilslice, scalar_nilslice, cells_slice, scalar_slice, cells_nilmap, scalar_nilmap, cells_map, scalar_map, cells_nilfunc, scalar_nilfunc, cells_func, scalar_func, eqCells, eqLeaf, run_toL, toL_some, ev_toL, getD_toL, put_toL, keep_toL, asc, fput_same, fput_ne, fbase_nil, fbase_cons, fkeep_nil, fkeep_cons, fzero, fnone, List.map_cons, List.map_nil, ev_lit, put_none, resVals, resVal, resOf, partV, fillA, putCells, fillEls, strBin, minV, optNat, appendEls, elsOf, sliceSlV, sliceStrV, List.replicate, List.getElem?_append_left, List.getElem?_append_right, List.set_append_left, List.set_append_right, List.getElem?_set_self, List.getElem?_set_ne, f0, f5, f6, f7, f8, f9, f10, f53, f54, f55, d0, hil, ip, gp, s0, s5, ld, d1, hD0, sv.1, sv.2, su, su2, sd, sd2, sr, sr2]
          exact fin _ k _ _ _ n cb qa va vb rv uv dv _ _ l o b hnN upU dnD (by omega) (by omega) (tA.sub (by omega) rfl (fun _ h => h)) rfl rfl rfl rfl rfl rfl rfl rfl rfl rfl
      | 6, _, s0, send =>
        have s0 : binV .and (.int .i64 a) (.int .i64 7) = some (.int .i64 6) := s0
        obtain ⟨ag, k1, uv', k2, A1, G, l', e1, e2, o2, b2, t2, hG, hGu⟩ := o.tick b (by omega) (by omega) tA (by omega) (by omega)
        have su3 := o2.u.cells
        have su4 := o2.u.scalar
        simp [yld_some, exec_reg, exec_dreg, exec_seq, exec_cond, exec_block, exec_scope, exec_exit, exec_ret, exec_skip, exec_loop, ops_nil, ops_cons, ops_cons_gd, stages_nil, stages_cons_n, stages_cons_h, recheck, wantsOp, AV.same, sames, evalOp_p, evalOp_r, evalOp_a, evalOp_call, evalOp_callV, evalOp_store, evalOp_append, evalOp_clear, evalOp_mapUpdate, evalOp_delete, pP_move, pP_pick, pP_build, pP_nil_ptr, pP_nil_func, pP_bin, pP_eq, pP_neg, pP_inv, pP_not, pP_convInt, pP_convStr, pP_fieldAddr, pP_field, pP_indexAddr, pP_indexStr, pP_sliceStr, pP_sliceSl, pP_lenStr, pP_lenNil, pP_lenSl, pP_min, pP_max, pP_extract, pP_mkfn, bV_sub, bV_mul, bV_quo, bV_or, bV_xor, bV_andNot, bV_eql, bV_neq, bV_lss, bV_leq, bV_gtr, bV_geq, bV_shl, bV_str, eV_bool, eV_nn, eV_np, eV_pn, eV_snn, eV_sns, eV_ssn, eV_mnn, eV_mnm, eV_mmn, eV_fnn, eV_fnf, eV_ffn, eV_agg, rP_load, rP_lenNil, rP_str0, rdEl_K, rdK_row, aP_alloc, aP_box, aP_buildSlice, aP_makeSlice, aP_makeMap, aP_toBytes, hP_store, storeK_some, st_K, stK_row, stE_some, cells_agg, cells_bool, scalar_bool, cells_int, scalar_int, cells_str, scalar_str, cells_nilptr, scalar_nilptr, cells_ptr, scalar_ptr, cells_nilslice, scalar_nilslice, cells_slice, scalar_slice, cells_nilmap, scalar_nilmap, cells_map, scalar_map, cells_nilfunc, scalar_nilfunc, cells_func, scalar_func, eqCells, eqLeaf, run_toL, toL_some, ev_toL, getD_toL, put_toL, keep_toL, asc, fput_same, fput_ne, fbase_nil, fbase_cons, fkeep_nil, fkeep_cons, fzero, fnone, List.map_cons, List.map_nil, ev_lit, put_none, resVals, resVal, resOf, partV, fillA, putCells, fillEls, strBin, minV, optNat, appendEls, elsOf, sliceSlV, sliceStrV, List.replicate, List.getElem?_append_left, List.getElem?_append_right, List.set_append_left, List.set_append_right, List.getElem?_set_self, List.getElem?_set_ne, f0, f5, f6, f7, f8, f9, f10, f53, f54, f55, d0, hil, ip, gp, s0, s5, e1, e2, sv.1, sv.2, su, su2, su3, su4, sd, sd2, sr, sr2]
        exact fin _ k2 _ _ _ n cb qa va vb rv uv' dv _ _ l' o2 b2 hnN (upU.app hGu) dnD (by simp; omega) (by omega) t2 rfl rfl rfl rfl rfl rfl rfl rfl rfl rfl
      | 7, _, s0, send =>
        have s0 : binV .and (.int .i64 a) (.int .i64 7) = some (.int .i64 7) := s0
        obtain ⟨l', o2⟩ := o.lose
        simp [yld_some, exec_reg, exec_dreg, exec_seq, exec_cond, exec_block, exec_scope, exec_exit, exec_ret, exec_skip, exec_loop, ops_nil, ops_cons, ops_cons_gd, stages_nil, stages_cons_n, stages_cons_h, recheck, wantsOp, AV.same, sames, evalOp_p, evalOp_r, evalOp_a, evalOp_call, evalOp_callV, evalOp_store, evalOp_append, evalOp_clear, evalOp_mapUpdate, evalOp_delete, pP_move, pP_pick, pP_build, pP_nil_ptr, pP_nil_func, pP_bin, pP_eq, pP_neg, pP_inv, pP_not, pP_convInt, pP_convStr, pP_fieldAddr, pP_field, pP_indexAddr, pP_indexStr, pP_sliceStr, pP_sliceSl, pP_lenStr, pP_lenNil, pP_lenSl, pP_min, pP_max, pP_extract, pP_mkfn, bV_sub, bV_mul, bV_quo, bV_or, bV_xor, bV_andNot, bV_eql, bV_neq, bV_lss, bV_leq, bV_gtr, bV_geq, bV_shl, bV_str, eV_bool, eV_nn, eV_np, eV_pn, eV_snn, eV_sns, eV_ssn, eV_mnn, eV_mnm, eV_mmn, eV_fnn, eV_fnf, eV_ffn, eV_agg, rP_load, rP_lenNil, rP_str0, rdEl_K, rdK_row, aP_alloc, aP_box, aP_buildSlice, aP_makeSlice, aP_makeMap, aP_toBytes, hP_store, storeK_some, st_K, stK_row, stE_some, cells_agg, cells_bool, scalar_bool, cells_int, scalar_int, cells_str, scalar_str, cells_nilptr, scalar_nilptr, cells_ptr, scalar_ptr, cells_nilslice, scalar_nilslice, cells_slice, scalar_slice, cells_nilmap, scalar_nilmap, cells_map, scalar_map, cells_nilfunc, scalar_nilfunc, cells_func, scalar_func, eqCells, eqLeaf, run_toL, toL_some, ev_toL, getD_toL, put_toL, keep_toL, asc, fput_same, fput_ne, fbase_nil, fbase_cons, fkeep_nil, fkeep_cons, fzero, fnone, List.map_cons, List.map_nil, ev_lit, put_none, resVals, resVal, resOf, partV, fillA, putCells, fillEls, strBin, minV, optNat, appendEls, elsOf, sliceSlV, sliceStrV, List.replicate, List.getElem?_append_left, List.getElem?_append_right, List.set_append_left, List.set_append_right, List.getElem?_set_self, List.getElem?_set_ne, f0, f5, f6, f7, f8, f9, f10, f53, f54, f55, d0, hil, ip, gp, s0, s5, sv.1, sv.2, su, su2, sd, sd2, sr, sr2]
        exact fin _ k _ _ _ n cb qa va vb rv .nilslice .nilslice [] [] l' o2 b hnN (by simp [Ups]) (by simp [Dns]) (by simp) (by simp) (tA.sub (by omega) rfl (fun _ h => h)) rfl rfl rfl rfl rfl rfl rfl rfl rfl rfl
      | w + 8, hw, _, _ => omega
    · have hin : i = xs.length := by omega
      subst hin
      have d0 : decide ((xs.length : Int) < ((xs.length : Nat) : Int)) = false := dec_false (by omega)
      simp [yld_some, exec_reg, exec_dreg, exec_seq, exec_cond, exec_block, exec_scope, exec_exit, exec_ret, exec_skip, exec_loop, ops_nil, ops_cons, ops_cons_gd, stages_nil, stages_cons_n, stages_cons_h, recheck, wantsOp, AV.same, sames, evalOp_p, evalOp_r, evalOp_a, evalOp_call, evalOp_callV, evalOp_store, evalOp_append, evalOp_clear, evalOp_mapUpdate, evalOp_delete, pP_move, pP_pick, pP_build, pP_nil_ptr, pP_nil_func, pP_bin, pP_eq, pP_neg, pP_inv, pP_not, pP_convInt, pP_convStr, pP_fieldAddr, pP_field, pP_indexAddr, pP_indexStr, pP_sliceStr, pP_sliceSl, pP_lenStr, pP_lenNil, pP_lenSl, pP_min, pP_max, pP_extract, pP_mkfn, bV_add, bV_sub, bV_mul, bV_quo, bV_rem, bV_and, bV_or, bV_xor, bV_andNot, bV_eql, bV_neq, bV_lss, bV_leq, bV_gtr, bV_geq, bV_shl, bV_shr, bV_str, eV_bool, eV_nn, eV_np, eV_pn, eV_snn, eV_sns, eV_ssn, eV_mnn, eV_mnm, eV_mmn, eV_fnn, eV_fnf, eV_ffn, eV_agg, rP_load, rP_lenNil, rP_str0, rdEl_K, rdK_row, aP_alloc, aP_box, aP_buildSlice, aP_makeSlice, aP_makeMap, aP_toBytes, hP_store, storeK_some, st_K, stK_row, stE_some, cells_agg, cells_bool, scalar_bool, cells_int, scalar_int, cells_str, scalar_str, cells_nilptr, scalar_nilptr, cells_ptr, scalar_ptr, cells_nilslice, scalar_nilslice, cells_slice, scalar_slice, cells_nilmap, scalar_nilmap, cells_map, scalar_map, cells_nilfunc, scalar_nilfunc, cells_func, scalar_func, eqCells, eqLeaf, run_toL, toL_some, ev_toL, getD_toL, put_toL, keep_toL, asc, fput_same, fput_ne, fbase_nil, fbase_cons, fkeep_nil, fkeep_cons, fzero, fnone, List.map_cons, List.map_nil, ev_lit, put_none, resVals, resVal, resOf, partV, fillA, putCells, fillEls, strBin, minV, optNat, appendEls, elsOf, sliceSlV, sliceStrV, List.replicate, List.getElem?_append_left, List.getElem?_append_right, List.set_append_left, List.set_append_right, List.getElem?_set_self, List.getElem?_set_ne, hq_get0, hq_get, hq_get2, hq_get3, hp_get0, hp_get, hp_get2, hp_get3, hp_set0, hp_set, hp_set2, hp_set3, wr_0, wr_1, wr_2, wr_3, wr_4, wr_n1, f0, f5, f6, f7, f8, f9, f10, f53, f54, f55, d0]
      exact hQ' _ (hQ _ _ A B R n cb qa va vb rv l rfl rfl rfl rfl o.w b (by omega) (tA.sub (by omega) rfl (fun _ h => h)))
set_option maxHeartbeats 16000000 in
/-- All that goes again comes. -/
theorem fair_loop {lvs : List Nat} {body : SCode} (hb : (loopsAll sf7.body)[2]? = some (lvs, body)) {n q t N : Nat} (hn : n ≤ 40) {ga ma gb mb : Nat} {kk : H} {A0 B0 : Ls} {R0 : List Lt} {cb0 qa0 : Nat} {va0 vb0 rv0 : AV} {l0 : List (List Nat)} {ag : AV} {f : Nat → AV}
    (w0 : Wd kk l0 ga ma gb mb va0 vb0 rv0 .nilslice A0 B0 R0 []) (b0 : Bo xk yk 1 2 n 0 A0 B0 R0 [] 0 cb0 qa0 0) (hl0 : l0.length = 5) (h4 : l0.getD 4 [] = foot ag) (oag : Own kk 25 ag (pks (agn xk 1 2 N q 0))) (hq0 : q ≤ cb0) (hq1 : q ≤ qa0) (hqn : q ≤ N) (hN : N ≤ n)
    (f5 : f 5 = .ptr ga 0 0) (f6 : f 6 = .ptr gb 0 0) (f9 : f 9 = rv0) (f10 : f 10 = .int .i64 (n : Nat)) (f22 : f 22 = .int .i64 (t : Nat)) (fu : f 187 = ag) (fu1 : f 188 = .int .i64 ((N - q : Nat) : Int)) (fu2 : f 189 = .int .i64 0) {Q : (Ex × Env) × H → Prop}
    (hQ : ∀ (f' : Nat → AV) (k' : H) (A B : Ls) (R : List Lt) (cb qa : Nat) (va vb rv : AV) (l' : List (List Nat)), f' 5 = .ptr ga 0 0 → f' 6 = .ptr gb 0 0 → f' 9 = rv → f' 10 = .int .i64 (n : Nat) → f' 22 = .int .i64 (t : Nat) → Wd k' l' ga ma gb mb va vb rv .nilslice A B R [] → Bo xk yk 1 2 n 0 A B R [] 0 cb qa 0 → N ≤ cb → q ≤ qa → (q < N → cb ≤ qa) →
      A.now = A0.now → (∀ w ∈ A.waits, w ∈ A0.waits) → Q ((.exit 5, toL 241 f'), k')) :
    Yld (itw (fun env => exec (call fs2 ex2) itw body (keepFrom lvs 0 env)) (toL 241 f) kk) Q := by
  simp [sf7, loopsAll] at hb
  obtain ⟨rfl, rfl⟩ := hb
  refine yld_rounds (fun z e k => ∃ (f : Nat → AV) (i : Nat) (A B : Ls) (R : List Lt) (cb qa : Nat) (va vb rv : AV) (l : List (List Nat)), e = toL 241 f ∧ z = (N - q) - i ∧ i ≤ N - q ∧ Wd k l ga ma gb mb va vb rv .nilslice A B R [] ∧ Bo xk yk 1 2 n 0 A B R [] 0 cb qa 0 ∧ l.length = 5 ∧ l.getD 4 [] = foot ag ∧ Own k 25 ag (pks (agn xk 1 2 N q 0)) ∧
    (q + i ≤ cb ∧ q ≤ qa ∧ (0 < i → cb ≤ qa)) ∧ (A.now = A0.now ∧ (∀ w ∈ A.waits, w ∈ A0.waits)) ∧
    f 5 = .ptr ga 0 0 ∧ f 6 = .ptr gb 0 0 ∧ f 9 = rv ∧ f 10 = .int .i64 (n : Nat) ∧ f 22 = .int .i64 (t : Nat) ∧ f 187 = ag ∧ f 188 = .int .i64 ((N - q : Nat) : Int) ∧ f 189 = .int .i64 (i : Nat)) ((N - q) - 0) ?_ ?_
  · exact ⟨f, 0, A0, B0, R0, cb0, qa0, va0, vb0, rv0, l0, rfl, rfl, Nat.zero_le _, w0, b0, hl0, h4, oag, ⟨by omega, hq1, by omega⟩, ⟨rfl, fun _ h => h⟩, f5, f6, f9, f10, f22, fu, fu1, fu2⟩
  · clear f5 f6 f9 f10 f22 fu fu1 fu2
    rintro J Q' hJ hQ' z e k ⟨f, i, A, B, R, cb, qa, va, vb, rv, l, rfl, rfl, hi, w1, b, hl, h4, oag, ⟨g1, g2, g3⟩, ⟨t1, t3⟩, f5, f6, f9, f10, f22, fu, fu1, fu2⟩
    have hcn := b.kept'.cn
    have hqq := b.waits.1
    by_cases hil : i < N - q
    · have d0 : decide ((i : Int) < ((N - q : Nat) : Int)) = true := dec_true (by omega)
      have hwi : IntKind.i64.wrap ((i : Int) + 1) = ((i + 1 : Nat) : Int) := wrap_i64 (by omega) (by omega)
      have hlen : i < (pks (agn xk 1 2 N q 0)).length := by simpa [pks, agn_len] using hil
      obtain ⟨pb, ip, gp⟩ := own_idx oag hlen
      rw [agn_get] at gp
      have w0 := w1.more [.row 25 [Pk.av ⟨1, 2, ((q + 1 + i : Nat) : Int), ((0 : Nat) : Int), xk (q + 1 + i)⟩] true true]
      obtain ⟨vo, k1, ack, rv', k2, vo2, k3, va', vb', A', B', cb', o, l', d1, d2, d3, d4, w2, b2, d5, d6, d7, d8, d9, d10, d11, d12, d13, d14⟩ := w0.up b (by omega) (by omega) (j := q + 1 + i) (a0 := 0) (by omega) (by omega) (Nat.le_refl _)
      have oag2 := (oag.keep (Chg.app k [.row 25 [Pk.av ⟨1, 2, ((q + 1 + i : Nat) : Int), ((0 : Nat) : Int), xk (q + 1 + i)⟩] true true] []) (by simp)).keep d14 (by rw [← h4]; exact d13 4 (by omega))
      have sv := w2.r.cells
      generalize hgn : N - q = NQ at *
      generalize hj : q + 1 + i = j at *
      simp only [Pk.av, Int.natCast_zero] at gp d1 d2 d3 d4
      simp [yld_some, exec_reg, exec_dreg, exec_seq, exec_cond, exec_block, exec_scope, exec_exit, exec_ret, exec_skip, exec_loop, ops_nil, ops_cons, ops_cons_gd, stages_nil, stages_cons_n, stages_cons_h, recheck, wantsOp, AV.same, sames, evalOp_p, evalOp_r, evalOp_a, evalOp_call, evalOp_callV, evalOp_store, evalOp_append, evalOp_clear, evalOp_mapUpdate, evalOp_delete, pP_move, pP_pick, pP_build, pP_nil_ptr, pP_nil_func, pP_bin, pP_eq, pP_neg, pP_inv, pP_not, pP_convInt, pP_convStr, pP_fieldAddr, pP_field, pP_indexAddr, pP_indexStr, pP_sliceStr, pP_sliceSl, pP_lenStr, pP_lenNil, pP_lenSl, pP_min, pP_max, pP_extract, pP_mkfn, bV_add, bV_sub, bV_mul, bV_quo, bV_rem, bV_and, bV_or, bV_xor, bV_andNot, bV_eql, bV_neq, bV_lss, bV_leq, bV_gtr, bV_geq, bV_shl, bV_shr, bV_str, eV_bool, eV_nn, eV_np, eV_pn, eV_snn, eV_sns, eV_ssn, eV_mnn, eV_mnm, eV_mmn, eV_fnn, eV_fnf, eV_ffn, eV_agg, rP_load, rP_lenNil, rP_str0, rdEl_K, rdK_row, aP_alloc, aP_box, aP_buildSlice, aP_makeSlice, aP_makeMap, aP_toBytes, hP_store, storeK_some, st_K, stK_row, stE_some, cells_agg, cells_bool, scalar_bool, cells_int, scalar_int, cells_str, scalar_str, cells_nilptr, scalar_nilptr, cells_ptr, scalar_ptr, cells_nilslice, scalar_nilslice, cells_slice, scalar_slice, cells_nilmap, scalar_nilmap, cells_map, scalar_map, cells_nilfunc, scalar_nilfunc, cells_func, scalar_func, eqCells, eqLeaf, run_toL, toL_some, ev_toL, getD_toL, put_toL, keep_toL, asc, fput_same, fput_ne, fbase_nil, fbase_cons, fkeep_nil, fkeep_cons, fzero, fnone, List.map_cons, List.map_nil, ev_lit, put_none, resVals, resVal, resOf, partV, fillA, putCells, fillEls, strBin, minV, optNat, appendEls, elsOf, sliceSlV, sliceStrV, List.replicate, List.getElem?_append_left, List.getElem?_append_right, List.set_append_left, List.set_append_right, List.getElem?_set_self, List.getElem?_set_ne, hq_get0, hq_get, hq_get2, hq_get3, hp_get0, hp_get, hp_get2, hp_get3, hp_set0, hp_set, hp_set2, hp_set3, wr_0, wr_1, wr_2, wr_3, wr_4, wr_n1, f5, f6, f9, f10, f22, fu, fu1, fu2, d0, hil, ip, gp, d1, d2, d3, get_app d3, set_app d3, get_set_same d3, get_set_app d3, set_set_app d3, len_beq d3, beq_len d3, d4, hwi]
      refine ⟨NQ - (i + 1), by omega, hJ _ _ _ ⟨_, i + 1, A', B', R ++ o, cb', max qa cb', va', vb', rv', l', rfl, rfl, hil, w2, b2, d12.trans hl, (d11 4 (by omega)).trans h4, oag2, ⟨by have := d6; omega, by omega, fun _ => by omega⟩, ⟨d7.trans t1, fun w h => t3 w (d9 w h)⟩, rfl, rfl, rfl, rfl, rfl, rfl, rfl, rfl⟩⟩
    · have hin : i = N - q := by omega
      have d0 : decide ((i : Int) < ((N - q : Nat) : Int)) = false := dec_false (by omega)
      simp [yld_some, exec_reg, exec_dreg, exec_seq, exec_cond, exec_block, exec_scope, exec_exit, exec_ret, exec_skip, exec_loop, ops_nil, ops_cons, ops_cons_gd, stages_nil, stages_cons_n, stages_cons_h, recheck, wantsOp, AV.same, sames, evalOp_p, evalOp_r, evalOp_a, evalOp_call, evalOp_callV, evalOp_store, evalOp_append, evalOp_clear, evalOp_mapUpdate, evalOp_delete, pP_move, pP_pick, pP_build, pP_nil_ptr, pP_nil_func, pP_bin, pP_eq, pP_neg, pP_inv, pP_not, pP_convInt, pP_convStr, pP_fieldAddr, pP_field, pP_indexAddr, pP_indexStr, pP_sliceStr, pP_sliceSl, pP_lenStr, pP_lenNil, pP_lenSl, pP_min, pP_max, pP_extract, pP_mkfn, bV_add, bV_sub, bV_mul, bV_quo, bV_rem, bV_and, bV_or, bV_xor, bV_andNot, bV_eql, bV_neq, bV_lss, bV_leq, bV_gtr, bV_geq, bV_shl, bV_shr, bV_str, eV_bool, eV_nn, eV_np, eV_pn, eV_snn, eV_sns, eV_ssn, eV_mnn, eV_mnm, eV_mmn, eV_fnn, eV_fnf, eV_ffn, eV_agg, rP_load, rP_lenNil, rP_str0, rdEl_K, rdK_row, aP_alloc, aP_box, aP_buildSlice, aP_makeSlice, aP_makeMap, aP_toBytes, hP_store, storeK_some, st_K, stK_row, stE_some, cells_agg, cells_bool, scalar_bool, cells_int, scalar_int, cells_str, scalar_str, cells_nilptr, scalar_nilptr, cells_ptr, scalar_ptr, cells_nilslice, scalar_nilslice, cells_slice, scalar_slice, cells_nilmap, scalar_nilmap, cells_map, scalar_map, cells_nilfunc, scalar_nilfunc, cells_func, scalar_func, eqCells, eqLeaf, run_toL, toL_some, ev_toL, getD_toL, put_toL, keep_toL, asc, fput_same, fput_ne, fbase_nil, fbase_cons, fkeep_nil, fkeep_cons, fzero, fnone, List.map_cons, List.map_nil, ev_lit, put_none, resVals, resVal, resOf, partV, fillA, putCells, fillEls, strBin, minV, optNat, appendEls, elsOf, sliceSlV, sliceStrV, List.replicate, List.getElem?_append_left, List.getElem?_append_right, List.set_append_left, List.set_append_right, List.getElem?_set_self, List.getElem?_set_ne, hq_get0, hq_get, hq_get2, hq_get3, hp_get0, hp_get, hp_get2, hp_get3, hp_set0, hp_set, hp_set2, hp_set3, wr_0, wr_1, wr_2, wr_3, wr_4, wr_n1, f5, f6, f9, f10, f22, fu, fu1, fu2, d0, hil]
      exact hQ' _ (hQ _ _ A B R cb qa va vb rv l rfl rfl rfl rfl rfl w1 b (by omega) g2 (fun h => g3 (by omega)) t1 t3)
/-- How long it can last. -/
def Un (t : Nat) (A : Ls) : Prop := A.waits = [] ∨ (t ≤ 3 ∧ ∃ w ∈ A.waits.head?, w.at_ + t ≤ A.now ∧ 0 ≤ w.at_)
set_option maxHeartbeats 32000000 in
theorem end_loop {lvs : List Nat} {body : SCode} (hb : (loopsAll sf7.body)[1]? = some (lvs, body)) {n : Nat} (hn : n ≤ 40) {ga ma gb mb : Nat} {kk : H} {A0 B0 : Ls} {R0 : List Lt} {cb0 qa0 : Nat} {va0 vb0 rv0 : AV} {l0 : List (List Nat)} {f : Nat → AV}
    (w0 : Wd kk l0 ga ma gb mb va0 vb0 rv0 .nilslice A0 B0 R0 []) (b0 : Bo xk yk 1 2 n 0 A0 B0 R0 [] 0 cb0 qa0 0) (hl0 : l0.length = 4) (u0 : Un 0 A0) (n0 : 0 ≤ A0.now ∧ A0.now ≤ 200)
    (f5 : f 5 = .ptr ga 0 0) (f6 : f 6 = .ptr gb 0 0) (f9 : f 9 = rv0) (f10 : f 10 = .int .i64 (n : Nat)) (f22 : f 22 = .int .i64 0) {Q : (Ex × Env) × H → Prop}
    (hQ : ∀ (f' : Nat → AV) (k' : H) (A B : Ls) (R : List Lt) (cb qa : Nat) (va vb rv : AV) (l' : List (List Nat)), f' 5 = .ptr ga 0 0 → f' 6 = .ptr gb 0 0 → f' 9 = rv → f' 10 = .int .i64 (n : Nat) → Wd k' l' ga ma gb mb va vb rv .nilslice A B R [] → Bo xk yk 1 2 n 0 A B R [] 0 cb qa 0 → A.waits = [] → Q ((.exit 3, toL 241 f'), k')) :
    Yld (itw (fun env => exec (call fs2 ex2) itw body (keepFrom lvs 0 env)) (toL 241 f) kk) Q := by
  simp [sf7, loopsAll] at hb
  obtain ⟨rfl, rfl⟩ := hb
  refine yld_rounds (fun z e k => ∃ (f : Nat → AV) (t : Nat) (A B : Ls) (R : List Lt) (cb qa : Nat) (va vb rv : AV) (l : List (List Nat)), e = toL 241 f ∧ z = 40 - t ∧ t ≤ 40 ∧ Wd k l ga ma gb mb va vb rv .nilslice A B R [] ∧ Bo xk yk 1 2 n 0 A B R [] 0 cb qa 0 ∧ l.length = 4 ∧ Un t A ∧ (0 ≤ A.now ∧ A.now ≤ 200 + t) ∧
    f 5 = .ptr ga 0 0 ∧ f 6 = .ptr gb 0 0 ∧ f 9 = rv ∧ f 10 = .int .i64 (n : Nat) ∧ f 22 = .int .i64 (t : Nat)) (40 - 0) ?_ ?_
  · exact ⟨f, 0, A0, B0, R0, cb0, qa0, va0, vb0, rv0, l0, rfl, rfl, Nat.zero_le _, w0, b0, hl0, u0, by omega, f5, f6, f9, f10, f22⟩
  · clear f5 f6 f9 f10 f22 w0 b0 u0 n0
    rintro J Q' hJ hQ' z e k ⟨f, t, A, B, R, cb, qa, va, vb, rv, l, rfl, rfl, ht, w, b, hl, u, hnow, f5, f6, f9, f10, f22⟩
    have kA : A.kept = [] := b.kept.full
    have wB : B.waits = [] := b.waits'.done
    have r1 := rest_call w.a
    have r2 := rest_call w.b
    rw [kA] at r1
    rw [wB] at r2
    have sr := w.r.cells
    have sr2 := w.r.scalar
    have sa := b.sizes (by omega) (by omega)
    have hwt : IntKind.i64.wrap ((t : Int) + 1) = ((t + 1 : Nat) : Int) := wrap_i64 (by omega) (by omega)
    by_cases h0 : A.waits = []
    · have hq := b.waits.nil h0
      have hcn := b.kept'.cn
      have hqq := b.q
      have ec : cb = n := by omega
      subst ec
      have kB := b.kept'.full
      rw [h0] at r1
      rw [kB] at r2
      simp at r1 r2
      by_cases h40 : t < 40
      · have d0 : decide ((t : Int) < 40) = true := dec_true (by omega)
        simp [yld_some, exec_reg, exec_dreg, exec_seq, exec_cond, exec_block, exec_scope, exec_exit, exec_ret, exec_skip, exec_loop, ops_nil, ops_cons, ops_cons_gd, stages_nil, stages_cons_n, stages_cons_h, recheck, wantsOp, AV.same, sames, evalOp_p, evalOp_r, evalOp_a, evalOp_call, evalOp_callV, evalOp_store, evalOp_append, evalOp_clear, evalOp_mapUpdate, evalOp_delete, pP_move, pP_pick, pP_build, pP_nil_ptr, pP_nil_func, pP_bin, pP_eq, pP_neg, pP_inv, pP_not, pP_convInt, pP_convStr, pP_fieldAddr, pP_field, pP_indexAddr, pP_indexStr, pP_sliceStr, pP_sliceSl, pP_lenStr, pP_lenNil, pP_lenSl, pP_min, pP_max, pP_extract, pP_mkfn, bV_add, bV_sub, bV_mul, bV_quo, bV_rem, bV_and, bV_or, bV_xor, bV_andNot, bV_eql, bV_neq, bV_lss, bV_leq, bV_gtr, bV_geq, bV_shl, bV_shr, bV_str, eV_bool, eV_nn, eV_np, eV_pn, eV_snn, eV_sns, eV_ssn, eV_mnn, eV_mnm, eV_mmn, eV_fnn, eV_fnf, eV_ffn, eV_agg, rP_load, rP_lenNil, rP_str0, rdEl_K, rdK_row, aP_alloc, aP_box, aP_buildSlice, aP_makeSlice, aP_makeMap, aP_toBytes, hP_store, storeK_some, st_K, stK_row, stE_some, cells_agg, cells_bool, scalar_bool, cells_int, scalar_int, cells_str, scalar_str, cells_nilptr, scalar_nilptr, cells_ptr, scalar_ptr, cells_nilslice, scalar_nilslice, cells_slice, scalar_slice, cells_nilmap, scalar_nilmap, cells_map, scalar_map, cells_nilfunc, scalar_nilfunc, cells_func, scalar_func, eqCells, eqLeaf, run_toL, toL_some, ev_toL, getD_toL, put_toL, keep_toL, asc, fput_same, fput_ne, fbase_nil, fbase_cons, fkeep_nil, fkeep_cons, fzero, fnone, List.map_cons, List.map_nil, ev_lit, put_none, resVals, resVal, resOf, partV, fillA, putCells, fillEls, strBin, minV, optNat, appendEls, elsOf, sliceSlV, sliceStrV, List.replicate, List.getElem?_append_left, List.getElem?_append_right, List.set_append_left, List.set_append_right, List.getElem?_set_self, List.getElem?_set_ne, hq_get0, hq_get, hq_get2, hq_get3, hp_get0, hp_get, hp_get2, hp_get3, hp_set0, hp_set, hp_set2, hp_set3, wr_0, wr_1, wr_2, wr_3, wr_4, wr_n1, f5, f6, f9, f10, f22, d0, r1, r2, sr, sr2]
        exact hQ' _ (hQ _ _ A B R cb qa va vb rv l rfl rfl rfl rfl w b h0)
      · have d0 : decide ((t : Int) < 40) = false := dec_false (by omega)
        simp [yld_some, exec_reg, exec_dreg, exec_seq, exec_cond, exec_block, exec_scope, exec_exit, exec_ret, exec_skip, exec_loop, ops_nil, ops_cons, ops_cons_gd, stages_nil, stages_cons_n, stages_cons_h, recheck, wantsOp, AV.same, sames, evalOp_p, evalOp_r, evalOp_a, evalOp_call, evalOp_callV, evalOp_store, evalOp_append, evalOp_clear, evalOp_mapUpdate, evalOp_delete, pP_move, pP_pick, pP_build, pP_nil_ptr, pP_nil_func, pP_bin, pP_eq, pP_neg, pP_inv, pP_not, pP_convInt, pP_convStr, pP_fieldAddr, pP_field, pP_indexAddr, pP_indexStr, pP_sliceStr, pP_sliceSl, pP_lenStr, pP_lenNil, pP_lenSl, pP_min, pP_max, pP_extract, pP_mkfn, bV_add, bV_sub, bV_mul, bV_quo, bV_rem, bV_and, bV_or, bV_xor, bV_andNot, bV_eql, bV_neq, bV_lss, bV_leq, bV_gtr, bV_geq, bV_shl, bV_shr, bV_str, eV_bool, eV_nn, eV_np, eV_pn, eV_snn, eV_sns, eV_ssn, eV_mnn, eV_mnm, eV_mmn, eV_fnn, eV_fnf, eV_ffn, eV_agg, rP_load, rP_lenNil, rP_str0, rdEl_K, rdK_row, aP_alloc, aP_box, aP_buildSlice, aP_makeSlice, aP_makeMap, aP_toBytes, hP_store, storeK_some, st_K, stK_row, stE_some, cells_agg, cells_bool, scalar_bool, cells_int, scalar_int, cells_str, scalar_str, cells_nilptr, scalar_nilptr, cells_ptr, scalar_ptr, cells_nilslice, scalar_nilslice, cells_slice, scalar_slice, cells_nilmap, scalar_nilmap, cells_map, scalar_map, cells_nilfunc, scalar_nilfunc, cells_func, scalar_func, eqCells, eqLeaf, run_toL, toL_some, ev_toL, getD_toL, put_toL, keep_toL, asc, fput_same, fput_ne, fbase_nil, fbase_cons, fkeep_nil, fkeep_cons, fzero, fnone, List.map_cons, List.map_nil, ev_lit, put_none, resVals, resVal, resOf, partV, fillA, putCells, fillEls, strBin, minV, optNat, appendEls, elsOf, sliceSlV, sliceStrV, List.replicate, List.getElem?_append_left, List.getElem?_append_right, List.set_append_left, List.set_append_right, List.getElem?_set_self, List.getElem?_set_ne, hq_get0, hq_get, hq_get2, hq_get3, hp_get0, hp_get, hp_get2, hp_get3, hp_set0, hp_set, hp_set2, hp_set3, wr_0, wr_1, wr_2, wr_3, wr_4, wr_n1, f5, f6, f9, f10, f22, d0, sr, sr2]
        exact hQ' _ (hQ _ _ A B R cb qa va vb rv l rfl rfl rfl rfl w b h0)
    · rcases u with u | ⟨h3, w', hw, hat, hat0⟩
      · exact absurd u h0
      have d0 : decide ((t : Int) < 40) = true := dec_true (by omega)
      have hz : decide (A.waits.length = 0) = false := dec_false (fun h => h0 (List.length_eq_zero_iff.1 h))
      rw [hz] at r1
      simp only [Bool.false_and] at r1
      by_cases hlt : A.now + 1 - w'.at_ < 4
      · obtain ⟨k1, e19, w1⟩ := w.quietA (by omega) (by omega) (.inr ⟨w', hw, hlt, by omega, by omega⟩)
        have sr3 := w1.r.cells
        have sr4 := w1.r.scalar
        simp [yld_some, exec_reg, exec_dreg, exec_seq, exec_cond, exec_block, exec_scope, exec_exit, exec_ret, exec_skip, exec_loop, ops_nil, ops_cons, ops_cons_gd, stages_nil, stages_cons_n, stages_cons_h, recheck, wantsOp, AV.same, sames, evalOp_p, evalOp_r, evalOp_a, evalOp_call, evalOp_callV, evalOp_store, evalOp_append, evalOp_clear, evalOp_mapUpdate, evalOp_delete, pP_move, pP_pick, pP_build, pP_nil_ptr, pP_nil_func, pP_bin, pP_eq, pP_neg, pP_inv, pP_not, pP_convInt, pP_convStr, pP_fieldAddr, pP_field, pP_indexAddr, pP_indexStr, pP_sliceStr, pP_sliceSl, pP_lenStr, pP_lenNil, pP_lenSl, pP_min, pP_max, pP_extract, pP_mkfn, bV_add, bV_sub, bV_mul, bV_quo, bV_rem, bV_and, bV_or, bV_xor, bV_andNot, bV_eql, bV_neq, bV_lss, bV_leq, bV_gtr, bV_geq, bV_shl, bV_shr, bV_str, eV_bool, eV_nn, eV_np, eV_pn, eV_snn, eV_sns, eV_ssn, eV_mnn, eV_mnm, eV_mmn, eV_fnn, eV_fnf, eV_ffn, eV_agg, rP_load, rP_lenNil, rP_str0, rdEl_K, rdK_row, aP_alloc, aP_box, aP_buildSlice, aP_makeSlice, aP_makeMap, aP_toBytes, hP_store, storeK_some, st_K, stK_row, stE_some, cells_agg, cells_bool, scalar_bool, cells_int, scalar_int, cells_str, scalar_str, cells_nilptr, scalar_nilptr, cells_ptr, scalar_ptr, cells_nilslice, scalar_nilslice, cells_slice, scalar_slice, cells_nilmap, scalar_nilmap, cells_map, scalar_map, cells_nilfunc, scalar_nilfunc, cells_func, scalar_func, eqCells, eqLeaf, run_toL, toL_some, ev_toL, getD_toL, put_toL, keep_toL, asc, fput_same, fput_ne, fbase_nil, fbase_cons, fkeep_nil, fkeep_cons, fzero, fnone, List.map_cons, List.map_nil, ev_lit, put_none, resVals, resVal, resOf, partV, fillA, putCells, fillEls, strBin, minV, optNat, appendEls, elsOf, sliceSlV, sliceStrV, List.replicate, List.getElem?_append_left, List.getElem?_append_right, List.set_append_left, List.set_append_right, List.getElem?_set_self, List.getElem?_set_ne, hq_get0, hq_get, hq_get2, hq_get3, hp_get0, hp_get, hp_get2, hp_get3, hp_set0, hp_set, hp_set2, hp_set3, wr_0, wr_1, wr_2, wr_3, wr_4, wr_n1, f5, f6, f9, f10, f22, d0, r1, e19, itw_eq, hwt, sr, sr2]
        exact ⟨40 - (t + 1), by omega, hJ _ _ _ ⟨_, t + 1, _, B, R, cb, qa, va, vb, rv, l, rfl, rfl, by omega, w1, b.tickA _, hl, .inr ⟨by omega, w', hw, by simp only; omega, hat0⟩, by simp only; omega, rfl, rfl, rfl, rfl, rfl⟩⟩
      · obtain ⟨ag, k1, e19, w1, o1⟩ := w.againA hl (by omega) (by omega) ⟨w', hw, hlt, by omega, by omega⟩
        rw [b.againA] at o1
        have la := own_len o1
        have sa1 := o1.cells
        have sa2 := o1.scalar
        have : (pks (agn xk 1 2 n qa 0)).length = n - qa := by simp [pks, agn_len]
        rw [this] at la
        simp [yld_some, exec_reg, exec_dreg, exec_seq, exec_cond, exec_block, exec_scope, exec_exit, exec_ret, exec_skip, exec_loop, ops_nil, ops_cons, ops_cons_gd, stages_nil, stages_cons_n, stages_cons_h, recheck, wantsOp, AV.same, sames, evalOp_p, evalOp_r, evalOp_a, evalOp_call, evalOp_callV, evalOp_store, evalOp_append, evalOp_clear, evalOp_mapUpdate, evalOp_delete, pP_move, pP_pick, pP_build, pP_nil_ptr, pP_nil_func, pP_bin, pP_eq, pP_neg, pP_inv, pP_not, pP_convInt, pP_convStr, pP_fieldAddr, pP_field, pP_indexAddr, pP_indexStr, pP_sliceStr, pP_sliceSl, pP_lenStr, pP_lenNil, pP_lenSl, pP_min, pP_max, pP_extract, pP_mkfn, bV_add, bV_sub, bV_mul, bV_quo, bV_rem, bV_and, bV_or, bV_xor, bV_andNot, bV_eql, bV_neq, bV_lss, bV_leq, bV_gtr, bV_geq, bV_shl, bV_shr, bV_str, eV_bool, eV_nn, eV_np, eV_pn, eV_snn, eV_sns, eV_ssn, eV_mnn, eV_mnm, eV_mmn, eV_fnn, eV_fnf, eV_ffn, eV_agg, rP_load, rP_lenNil, rP_str0, rdEl_K, rdK_row, aP_alloc, aP_box, aP_buildSlice, aP_makeSlice, aP_makeMap, aP_toBytes, hP_store, storeK_some, st_K, stK_row, stE_some, cells_agg, cells_bool, scalar_bool, cells_int, scalar_int, cells_str, scalar_str, cells_nilptr, scalar_nilptr, cells_ptr, scalar_ptr, cells_nilslice, scalar_nilslice, cells_slice, scalar_slice, cells_nilmap, scalar_nilmap, cells_map, scalar_map, cells_nilfunc, scalar_nilfunc, cells_func, scalar_func, eqCells, eqLeaf, run_toL, toL_some, ev_toL, getD_toL, put_toL, keep_toL, asc, fput_same, fput_ne, fbase_nil, fbase_cons, fkeep_nil, fkeep_cons, fzero, fnone, List.map_cons, List.map_nil, ev_lit, put_none, resVals, resVal, resOf, partV, fillA, putCells, fillEls, strBin, minV, optNat, appendEls, elsOf, sliceSlV, sliceStrV, List.replicate, List.getElem?_append_left, List.getElem?_append_right, List.set_append_left, List.set_append_right, List.getElem?_set_self, List.getElem?_set_ne, hq_get0, hq_get, hq_get2, hq_get3, hp_get0, hp_get, hp_get2, hp_get3, hp_set0, hp_set, hp_set2, hp_set3, wr_0, wr_1, wr_2, wr_3, wr_4, wr_n1, f5, f6, f9, f10, f22, d0, r1, e19, la, sr, sr2, sa1, sa2]
        repeat (first | apply yld_endFn | apply yld_seqK | apply yld_blockK | apply yld_regK | apply yld_opsK | apply yld_putK | apply yld_stgK | apply yld_chkK)
        refine fair_loop (by simp [sf7, loopsAll]) (t := t) hn w1 (b.anewA _ _) (by simp [hl]) (by have := getD_last l (foot ag); rw [hl] at this; exact this) o1 b.q (Nat.le_refl _) b.waits.1 (Nat.le_refl _) (by rfl) (by rfl) (by rfl) (by rfl) (by rfl) (by rfl) (by rfl) (by rfl) ?_
        intro f' k' A2 B2 R2 cb2 qa2 va2 vb2 rv2 l2 f5 f6 f9 f10 f22 w2 b2 g1 g2 g3 g4 g6
        have w3 := w2.cut
        have sr := w2.r.cells
        have sr2 := w2.r.scalar
        have hq1 := b2.waits.1
        have hqn : qa2 = n := by
          by_cases h : qa < n
          · have := g3 h; omega
          · omega
        have hw := b2.waits
        rw [hqn] at hw
        simp [yld_some, exec_reg, exec_dreg, exec_seq, exec_cond, exec_block, exec_scope, exec_exit, exec_ret, exec_skip, exec_loop, ops_nil, ops_cons, ops_cons_gd, stages_nil, stages_cons_n, stages_cons_h, recheck, wantsOp, AV.same, sames, evalOp_p, evalOp_r, evalOp_a, evalOp_call, evalOp_callV, evalOp_store, evalOp_append, evalOp_clear, evalOp_mapUpdate, evalOp_delete, pP_move, pP_pick, pP_build, pP_nil_ptr, pP_nil_func, pP_bin, pP_eq, pP_neg, pP_inv, pP_not, pP_convInt, pP_convStr, pP_fieldAddr, pP_field, pP_indexAddr, pP_indexStr, pP_sliceStr, pP_sliceSl, pP_lenStr, pP_lenNil, pP_lenSl, pP_min, pP_max, pP_extract, pP_mkfn, bV_add, bV_sub, bV_mul, bV_quo, bV_rem, bV_and, bV_or, bV_xor, bV_andNot, bV_eql, bV_neq, bV_lss, bV_leq, bV_gtr, bV_geq, bV_shl, bV_shr, bV_str, eV_bool, eV_nn, eV_np, eV_pn, eV_snn, eV_sns, eV_ssn, eV_mnn, eV_mnm, eV_mmn, eV_fnn, eV_fnf, eV_ffn, eV_agg, rP_load, rP_lenNil, rP_str0, rdEl_K, rdK_row, aP_alloc, aP_box, aP_buildSlice, aP_makeSlice, aP_makeMap, aP_toBytes, hP_store, storeK_some, st_K, stK_row, stE_some, cells_agg, cells_bool, scalar_bool, cells_int, scalar_int, cells_str, scalar_str, cells_nilptr, scalar_nilptr, cells_ptr, scalar_ptr, cells_nilslice, scalar_nilslice, cells_slice, scalar_slice, cells_nilmap, scalar_nilmap, cells_map, scalar_map, cells_nilfunc, scalar_nilfunc, cells_func, scalar_func, eqCells, eqLeaf, run_toL, toL_some, ev_toL, getD_toL, put_toL, keep_toL, asc, fput_same, fput_ne, fbase_nil, fbase_cons, fkeep_nil, fkeep_cons, fzero, fnone, List.map_cons, List.map_nil, ev_lit, put_none, resVals, resVal, resOf, partV, fillA, putCells, fillEls, strBin, minV, optNat, appendEls, elsOf, sliceSlV, sliceStrV, List.replicate, List.getElem?_append_left, List.getElem?_append_right, List.set_append_left, List.set_append_right, List.getElem?_set_self, List.getElem?_set_ne, hq_get0, hq_get, hq_get2, hq_get3, hp_get0, hp_get, hp_get2, hp_get3, hp_set0, hp_set, hp_set2, hp_set3, wr_0, wr_1, wr_2, wr_3, wr_4, wr_n1, f5, f6, f9, f10, f22, hwt, sr, sr2]
        exact ⟨40 - (t + 1), by omega, hJ _ _ _ ⟨_, t + 1, A2, B2, R2, cb2, qa2, va2, vb2, rv2, _, rfl, rfl, by omega, w3, b2, by have := w2.len; simp; omega, .inl hw.done, by simp only at g4; omega, by simp [fput, f5], by simp [fput, f6], by simp [fput, f9], by simp [fput, f10], by simp [fput]⟩⟩
set_option maxHeartbeats 16000000 in
theorem order_loop {lvs : List Nat} {body : SCode} (hb : (loopsAll sf7.body)[3]? = some (lvs, body)) {n : Nat} (hn : n ≤ 40) {k : H} {rv : AV} {f : Nat → AV} (or : Own k 21 rv (lts (seg xk 0 n)))
    (f9 : f 9 = rv) (f28 : f 28 = .int .i64 0) {Q : (Ex × Env) × H → Prop} (hQ : ∀ f', Q ((.exit 7, toL 241 f'), k)) :
    Yld (itw (fun env => exec (call fs2 ex2) itw body (keepFrom lvs 0 env)) (toL 241 f) k) Q := by
  simp [sf7, loopsAll] at hb
  obtain ⟨rfl, rfl⟩ := hb
  have so := or.cells
  have so2 := or.scalar
  have lr := own_len or
  have x1 : (lts (seg xk 0 n)).length = n := by simp [lts, seg_len]
  rw [x1] at lr
  refine yld_rounds (fun z e kk => ∃ (f : Nat → AV) (i : Nat), e = toL 241 f ∧ z = n - i ∧ i ≤ n ∧ kk = k ∧ f 9 = rv ∧ f 28 = .int .i64 (i : Nat)) (n - 0) ?_ ?_
  · exact ⟨f, 0, rfl, rfl, Nat.zero_le _, rfl, f9, f28⟩
  · clear f9 f28
    rintro J Q' hJ hQ' z e kk ⟨f, i, rfl, rfl, hi, rfl, f9, f28⟩
    by_cases hil : i < n
    · have d0 : decide ((i : Int) < (n : Nat)) = true := dec_true (by omega)
      have hwi : IntKind.i64.wrap ((i : Int) + 1) = ((i + 1 : Nat) : Int) := wrap_i64 (by omega) (by omega)
      obtain ⟨pb, ip, gp⟩ := own_idx or (i := i) (by simp [lts, seg_len]; exact hil)
      rw [lts_get] at gp
      have hg : (seg xk 0 n)[i]'(by rw [seg_len]; omega) = xk (i + 1) := by
        have := seg_get (x := xk) (n := n) hil
        rw [List.getElem?_eq_getElem (by rw [seg_len]; omega)] at this
        exact Option.some.inj this
      rw [hg] at gp
      simp only [xk, Lt.av] at gp
      simp [yld_some, exec_reg, exec_dreg, exec_seq, exec_cond, exec_block, exec_scope, exec_exit, exec_ret, exec_skip, exec_loop, ops_nil, ops_cons, ops_cons_gd, stages_nil, stages_cons_n, stages_cons_h, recheck, wantsOp, AV.same, sames, evalOp_p, evalOp_r, evalOp_a, evalOp_call, evalOp_callV, evalOp_store, evalOp_append, evalOp_clear, evalOp_mapUpdate, evalOp_delete, pP_move, pP_pick, pP_build, pP_nil_ptr, pP_nil_func, pP_bin, pP_eq, pP_neg, pP_inv, pP_not, pP_convInt, pP_convStr, pP_fieldAddr, pP_field, pP_indexAddr, pP_indexStr, pP_sliceStr, pP_sliceSl, pP_lenStr, pP_lenNil, pP_lenSl, pP_min, pP_max, pP_extract, pP_mkfn, bV_add, bV_sub, bV_mul, bV_quo, bV_rem, bV_and, bV_or, bV_xor, bV_andNot, bV_eql, bV_neq, bV_lss, bV_leq, bV_gtr, bV_geq, bV_shl, bV_shr, bV_str, eV_bool, eV_nn, eV_np, eV_pn, eV_snn, eV_sns, eV_ssn, eV_mnn, eV_mnm, eV_mmn, eV_fnn, eV_fnf, eV_ffn, eV_agg, rP_load, rP_lenNil, rP_str0, rdEl_K, rdK_row, aP_alloc, aP_box, aP_buildSlice, aP_makeSlice, aP_makeMap, aP_toBytes, hP_store, storeK_some, st_K, stK_row, stE_some, cells_agg, cells_bool, scalar_bool, cells_int, scalar_int, cells_str, scalar_str, cells_nilptr, scalar_nilptr, cells_ptr, scalar_ptr, cells_nilslice, scalar_nilslice, cells_slice, scalar_slice, cells_nilmap, scalar_nilmap, cells_map, scalar_map, cells_nilfunc, scalar_nilfunc, cells_func, scalar_func, eqCells, eqLeaf, run_toL, toL_some, ev_toL, getD_toL, put_toL, keep_toL, asc, fput_same, fput_ne, fbase_nil, fbase_cons, fkeep_nil, fkeep_cons, fzero, fnone, List.map_cons, List.map_nil, ev_lit, put_none, resVals, resVal, resOf, partV, fillA, putCells, fillEls, strBin, minV, optNat, appendEls, elsOf, sliceSlV, sliceStrV, List.replicate, List.getElem?_append_left, List.getElem?_append_right, List.set_append_left, List.set_append_right, List.getElem?_set_self, List.getElem?_set_ne, hq_get0, hq_get, hq_get2, hq_get3, hp_get0, hp_get, hp_get2, hp_get3, hp_set0, hp_set, hp_set2, hp_set3, wr_0, wr_1, wr_2, wr_3, wr_4, wr_n1, f9, f28, lr, d0, hil, hwi, ip, gp, so, so2]
      exact ⟨n - (i + 1), by omega, hJ _ _ _ ⟨_, i + 1, rfl, rfl, hil, rfl, rfl, rfl⟩⟩
    · have hin : i = n := by omega
      subst hin
      simp [yld_some, exec_reg, exec_dreg, exec_seq, exec_cond, exec_block, exec_scope, exec_exit, exec_ret, exec_skip, exec_loop, ops_nil, ops_cons, ops_cons_gd, stages_nil, stages_cons_n, stages_cons_h, recheck, wantsOp, AV.same, sames, evalOp_p, evalOp_r, evalOp_a, evalOp_call, evalOp_callV, evalOp_store, evalOp_append, evalOp_clear, evalOp_mapUpdate, evalOp_delete, pP_move, pP_pick, pP_build, pP_nil_ptr, pP_nil_func, pP_bin, pP_eq, pP_neg, pP_inv, pP_not, pP_convInt, pP_convStr, pP_fieldAddr, pP_field, pP_indexAddr, pP_indexStr, pP_sliceStr, pP_sliceSl, pP_lenStr, pP_lenNil, pP_lenSl, pP_min, pP_max, pP_extract, pP_mkfn, bV_add, bV_sub, bV_mul, bV_quo, bV_rem, bV_and, bV_or, bV_xor, bV_andNot, bV_eql, bV_neq, bV_lss, bV_leq, bV_gtr, bV_geq, bV_shl, bV_shr, bV_str, eV_bool, eV_nn, eV_np, eV_pn, eV_snn, eV_sns, eV_ssn, eV_mnn, eV_mnm, eV_mmn, eV_fnn, eV_fnf, eV_ffn, eV_agg, rP_load, rP_lenNil, rP_str0, rdEl_K, rdK_row, aP_alloc, aP_box, aP_buildSlice, aP_makeSlice, aP_makeMap, aP_toBytes, hP_store, storeK_some, st_K, stK_row, stE_some, cells_agg, cells_bool, scalar_bool, cells_int, scalar_int, cells_str, scalar_str, cells_nilptr, scalar_nilptr, cells_ptr, scalar_ptr, cells_nilslice, scalar_nilslice, cells_slice, scalar_slice, cells_nilmap, scalar_nilmap, cells_map, scalar_map, cells_nilfunc, scalar_nilfunc, cells_func, scalar_func, eqCells, eqLeaf, run_toL, toL_some, ev_toL, getD_toL, put_toL, keep_toL, asc, fput_same, fput_ne, fbase_nil, fbase_cons, fkeep_nil, fkeep_cons, fzero, fnone, List.map_cons, List.map_nil, ev_lit, put_none, resVals, resVal, resOf, partV, fillA, putCells, fillEls, strBin, minV, optNat, appendEls, elsOf, sliceSlV, sliceStrV, List.replicate, List.getElem?_append_left, List.getElem?_append_right, List.set_append_left, List.set_append_right, List.getElem?_set_self, List.getElem?_set_ne, hq_get0, hq_get, hq_get2, hq_get3, hp_get0, hp_get, hp_get2, hp_get3, hp_set0, hp_set, hp_set2, hp_set3, wr_0, wr_1, wr_2, wr_3, wr_4, wr_n1, f9, f28, lr, so, so2]
      exact hQ' _ (hQ _)
set_option maxHeartbeats 32000000 in
theorem once_law {h : H} {v : AV} {xs : List Int} (hv : SlOf h 1 v (ints xs)) (n0 : Int) : Yld (call fs2 ex2 7 [.int .i64 n0, v] h) fun r => r.1 = .bool true := by
  refine yld_shut fun Q hQ => ?_
  rw [call_eq fs2 ex2 (f := 7) (sf := sf7) rfl]
  have hQ' : ∀ k, Q (.bool true, k) := fun k => hQ _ rfl
  have lv := sl_len hv
  rw [ints_len] at lv
  by_cases h1 : n0 < 0
  · simp [sf7, yld_some, exec_reg, exec_dreg, exec_seq, exec_cond, exec_block, exec_scope, exec_exit, exec_ret, exec_skip, exec_loop, ops_nil, ops_cons, ops_cons_gd, stages_nil, stages_cons_n, stages_cons_h, recheck, wantsOp, AV.same, sames, evalOp_p, evalOp_r, evalOp_a, evalOp_call, evalOp_callV, evalOp_store, evalOp_append, evalOp_clear, evalOp_mapUpdate, evalOp_delete, pP_move, pP_pick, pP_build, pP_nil_ptr, pP_nil_func, pP_bin, pP_eq, pP_neg, pP_inv, pP_not, pP_convInt, pP_convStr, pP_fieldAddr, pP_field, pP_indexAddr, pP_indexStr, pP_sliceStr, pP_sliceSl, pP_lenStr, pP_lenNil, pP_lenSl, pP_min, pP_max, pP_extract, pP_mkfn, bV_add, bV_sub, bV_mul, bV_quo, bV_rem, bV_and, bV_or, bV_xor, bV_andNot, bV_eql, bV_neq, bV_lss, bV_leq, bV_gtr, bV_geq, bV_shl, bV_shr, bV_str, eV_bool, eV_nn, eV_np, eV_pn, eV_snn, eV_sns, eV_ssn, eV_mnn, eV_mnm, eV_mmn, eV_fnn, eV_fnf, eV_ffn, eV_agg, rP_load, rP_lenNil, rP_str0, rdEl_K, rdK_row, aP_alloc, aP_box, aP_buildSlice, aP_makeSlice, aP_makeMap, aP_toBytes, hP_store, storeK_some, st_K, stK_row, stE_some, cells_agg, cells_bool, scalar_bool, cells_int, scalar_int, cells_str, scalar_str, cells_nilptr, scalar_nilptr, cells_ptr, scalar_ptr, cells_nilslice, scalar_nilslice, cells_slice, scalar_slice, cells_nilmap, scalar_nilmap, cells_map, scalar_map, cells_nilfunc, scalar_nilfunc, cells_func, scalar_func, eqCells, eqLeaf, run_toL, toL_some, ev_toL, getD_toL, put_toL, keep_toL, asc, fput_same, fput_ne, fbase_nil, fbase_cons, fkeep_nil, fkeep_cons, fzero, fnone, List.map_cons, List.map_nil, ev_lit, put_none, resVals, resVal, resOf, partV, fillA, putCells, fillEls, strBin, minV, optNat, appendEls, elsOf, sliceSlV, sliceStrV, List.replicate, List.getElem?_append_left, List.getElem?_append_right, List.set_append_left, List.set_append_right, List.getElem?_set_self, List.getElem?_set_ne, hq_get0, hq_get, hq_get2, hq_get3, hp_get0, hp_get, hp_get2, hp_get3, hp_set0, hp_set, hp_set2, hp_set3, wr_0, wr_1, wr_2, wr_3, wr_4, wr_n1, e2_10, ex2, h1, hQ']
  have d1 : decide (n0 < 0) = false := dec_false h1
  by_cases h2 : 40 < n0
  · simp [sf7, yld_some, exec_reg, exec_dreg, exec_seq, exec_cond, exec_block, exec_scope, exec_exit, exec_ret, exec_skip, exec_loop, ops_nil, ops_cons, ops_cons_gd, stages_nil, stages_cons_n, stages_cons_h, recheck, wantsOp, AV.same, sames, evalOp_p, evalOp_r, evalOp_a, evalOp_call, evalOp_callV, evalOp_store, evalOp_append, evalOp_clear, evalOp_mapUpdate, evalOp_delete, pP_move, pP_pick, pP_build, pP_nil_ptr, pP_nil_func, pP_bin, pP_eq, pP_neg, pP_inv, pP_not, pP_convInt, pP_convStr, pP_fieldAddr, pP_field, pP_indexAddr, pP_indexStr, pP_sliceStr, pP_sliceSl, pP_lenStr, pP_lenNil, pP_lenSl, pP_min, pP_max, pP_extract, pP_mkfn, bV_add, bV_sub, bV_mul, bV_quo, bV_rem, bV_and, bV_or, bV_xor, bV_andNot, bV_eql, bV_neq, bV_lss, bV_leq, bV_gtr, bV_geq, bV_shl, bV_shr, bV_str, eV_bool, eV_nn, eV_np, eV_pn, eV_snn, eV_sns, eV_ssn, eV_mnn, eV_mnm, eV_mmn, eV_fnn, eV_fnf, eV_ffn, eV_agg, rP_load, rP_lenNil, rP_str0, rdEl_K, rdK_row, aP_alloc, aP_box, aP_buildSlice, aP_makeSlice, aP_makeMap, aP_toBytes, hP_store, storeK_some, st_K, stK_row, stE_some, cells_agg, cells_bool, scalar_bool, cells_int, scalar_int, cells_str, scalar_str, cells_nilptr, scalar_nilptr, cells_ptr, scalar_ptr, cells_nilslice, scalar_nilslice, cells_slice, scalar_slice, cells_nilmap, scalar_nilmap, cells_map, scalar_map, cells_nilfunc, scalar_nilfunc, cells_func, scalar_func, eqCells, eqLeaf, run_toL, toL_some, ev_toL, getD_toL, put_toL, keep_toL, asc, fput_same, fput_ne, fbase_nil, fbase_cons, fkeep_nil, fkeep_cons, fzero, fnone, List.map_cons, List.map_nil, ev_lit, put_none, resVals, resVal, resOf, partV, fillA, putCells, fillEls, strBin, minV, optNat, appendEls, elsOf, sliceSlV, sliceStrV, List.replicate, List.getElem?_append_left, List.getElem?_append_right, List.set_append_left, List.set_append_right, List.getElem?_set_self, List.getElem?_set_ne, hq_get0, hq_get, hq_get2, hq_get3, hp_get0, hp_get, hp_get2, hp_get3, hp_set0, hp_set, hp_set2, hp_set3, wr_0, wr_1, wr_2, wr_3, wr_4, wr_n1, e2_10, ex2, d1, h2, hQ']
  have d2 : decide (40 < n0) = false := dec_false h2
  by_cases h5 : 200 < xs.length
  · have d5 : decide ((200 : Int) < xs.length) = true := dec_true (by omega)
    simp [sf7, yld_some, exec_reg, exec_dreg, exec_seq, exec_cond, exec_block, exec_scope, exec_exit, exec_ret, exec_skip, exec_loop, ops_nil, ops_cons, ops_cons_gd, stages_nil, stages_cons_n, stages_cons_h, recheck, wantsOp, AV.same, sames, evalOp_p, evalOp_r, evalOp_a, evalOp_call, evalOp_callV, evalOp_store, evalOp_append, evalOp_clear, evalOp_mapUpdate, evalOp_delete, pP_move, pP_pick, pP_build, pP_nil_ptr, pP_nil_func, pP_bin, pP_eq, pP_neg, pP_inv, pP_not, pP_convInt, pP_convStr, pP_fieldAddr, pP_field, pP_indexAddr, pP_indexStr, pP_sliceStr, pP_sliceSl, pP_lenStr, pP_lenNil, pP_lenSl, pP_min, pP_max, pP_extract, pP_mkfn, bV_add, bV_sub, bV_mul, bV_quo, bV_rem, bV_and, bV_or, bV_xor, bV_andNot, bV_eql, bV_neq, bV_lss, bV_leq, bV_gtr, bV_geq, bV_shl, bV_shr, bV_str, eV_bool, eV_nn, eV_np, eV_pn, eV_snn, eV_sns, eV_ssn, eV_mnn, eV_mnm, eV_mmn, eV_fnn, eV_fnf, eV_ffn, eV_agg, rP_load, rP_lenNil, rP_str0, rdEl_K, rdK_row, aP_alloc, aP_box, aP_buildSlice, aP_makeSlice, aP_makeMap, aP_toBytes, hP_store, storeK_some, st_K, stK_row, stE_some, cells_agg, cells_bool, scalar_bool, cells_int, scalar_int, cells_str, scalar_str, cells_nilptr, scalar_nilptr, cells_ptr, scalar_ptr, cells_nilslice, scalar_nilslice, cells_slice, scalar_slice, cells_nilmap, scalar_nilmap, cells_map, scalar_map, cells_nilfunc, scalar_nilfunc, cells_func, scalar_func, eqCells, eqLeaf, run_toL, toL_some, ev_toL, getD_toL, put_toL, keep_toL, asc, fput_same, fput_ne, fbase_nil, fbase_cons, fkeep_nil, fkeep_cons, fzero, fnone, List.map_cons, List.map_nil, ev_lit, put_none, resVals, resVal, resOf, partV, fillA, putCells, fillEls, strBin, minV, optNat, appendEls, elsOf, sliceSlV, sliceStrV, List.replicate, List.getElem?_append_left, List.getElem?_append_right, List.set_append_left, List.set_append_right, List.getElem?_set_self, List.getElem?_set_ne, hq_get0, hq_get, hq_get2, hq_get3, hp_get0, hp_get, hp_get2, hp_get3, hp_set0, hp_set, hp_set2, hp_set3, wr_0, wr_1, wr_2, wr_3, wr_4, wr_n1, e2_10, ex2, d1, d2, lv, h5, d5, hQ']
  have d5 : decide ((200 : Int) < xs.length) = false := dec_false (by omega)
  have d5' : decide (200 < xs.length) = false := dec_false h5
  obtain ⟨N, rfl⟩ : ∃ n : Nat, n0 = n := ⟨n0.toNat, by omega⟩
  have hN : N ≤ 40 := by omega
  have n1 := new_call 1 2 h
  have a1 := new_at 1 2 h
  generalize hh1 : h ++ [Blk.map [], .row 7 [[.int .i64 1, .int .i64 2, .int .i64 0, .int .i64 0, .nilslice, .int .i64 0, .map h.length]] true true] = k1 at n1 a1
  have n2 := new_call 2 1 k1
  have a2 := new_at 2 1 k1
  have hl1 : k1.length = h.length + 2 := by rw [← hh1]; simp
  have a1' := a1.keep' (Chg.app k1 [Blk.map [], .row 7 [[.int .i64 2, .int .i64 1, .int .i64 0, .int .i64 0, .nilslice, .int .i64 0, .map k1.length]] true true] []) (by simp)
  have c1 : Chg h (k1 ++ [Blk.map [], .row 7 [[.int .i64 2, .int .i64 1, .int .i64 0, .int .i64 0, .nilslice, .int .i64 0, .map k1.length]] true true]) [] := by
    rw [← hh1]; exact (Chg.app h _ []).trans (Chg.app _ _ []) (by simp)
  have hv1 := sl_keep hv c1 (by simp)
  have hlt := sl_lt hv
  generalize hh2 : k1 ++ [Blk.map [], .row 7 [[.int .i64 2, .int .i64 1, .int .i64 0, .int .i64 0, .nilslice, .int .i64 0, .map k1.length]] true true] = k2 at n2 a2 a1' hv1 c1
  have hl2 : k2.length = h.length + 4 := by rw [← hh2]; simp; omega
  have w0 : Wd k2 [[h.length + 1, h.length], [k1.length + 1, k1.length], [], [], [], [], sfoot v (ints xs)] (h.length + 1) h.length (k1.length + 1) k1.length .nilslice .nilslice .nilslice .nilslice (Ls.fresh 1 2) (Ls.fresh 2 1) [] [] := by
    refine ⟨⟨?_, ?_⟩, rfl, rfl, rfl, rfl, by simp, a1', a2, .inl ⟨rfl, rfl⟩, .inl ⟨rfl, rfl⟩⟩
    · intro i c hc
      match i, hc with
      | 0, hc => simp at hc; omega
      | 1, hc => simp at hc; omega
      | 2, hc => simp at hc
      | 3, hc => simp at hc
      | 4, hc => simp at hc
      | 5, hc => simp at hc
      | 6, hc => have := hlt c hc; omega
      | i + 7, hc => simp at hc
    · intro i j hij c hc hc'
      have A : ∀ i, c ∈ [[h.length + 1, h.length], [k1.length + 1, k1.length], [], [], [], [], sfoot v (ints xs)].getD i [] → (i = 0 ∧ h.length ≤ c ∧ c < k1.length) ∨ (i = 1 ∧ k1.length ≤ c) ∨ (i = 6 ∧ c < h.length) := by
        intro i hc
        match i, hc with
        | 0, hc => left; simp at hc; omega
        | 1, hc => right; left; simp at hc; omega
        | 2, hc => simp at hc
        | 3, hc => simp at hc
        | 4, hc => simp at hc
        | 5, hc => simp at hc
        | 6, hc => right; right; exact ⟨rfl, hlt c hc⟩
        | i + 7, hc => simp at hc
      rcases A i hc with ⟨e1, e2, e3⟩ | ⟨e1, e2⟩ | ⟨e1, e2⟩ <;> rcases A j hc' with ⟨g1, g2, g3⟩ | ⟨g1, g2⟩ | ⟨g1, g2⟩ <;> omega
  have o0 : On k2 [[h.length + 1, h.length], [k1.length + 1, k1.length], [], [], [], [], sfoot v (ints xs)] (h.length + 1) h.length (k1.length + 1) k1.length .nilslice .nilslice .nilslice .nilslice .nilslice v (ints xs) (Ls.fresh 1 2) (Ls.fresh 2 1) [] [] [] :=
    ⟨w0, rfl, rfl, rfl, rfl, .inl ⟨rfl, rfl⟩, .inl ⟨rfl, rfl⟩, hv1⟩
  have sv := slOf_cells hv
  have q1 : decide ((40 : Int) < (N : Int)) = false := dec_false (by omega)
  have q3 : decide ((N : Int) < 0) = false := dec_false (by omega)
  have q5 : decide (40 < N) = false := dec_false (by omega)
  simp [sf7, yld_some, exec_reg, exec_dreg, exec_seq, exec_cond, exec_block, exec_scope, exec_exit, exec_ret, exec_skip, exec_loop, ops_nil, ops_cons, ops_cons_gd, stages_nil, stages_cons_n, stages_cons_h, recheck, wantsOp, AV.same, sames, evalOp_p, evalOp_r, evalOp_a, evalOp_call, evalOp_callV, evalOp_store, evalOp_append, evalOp_clear, evalOp_mapUpdate, evalOp_delete, pP_move, pP_pick, pP_build, pP_nil_ptr, pP_nil_func, pP_bin, pP_eq, pP_neg, pP_inv, pP_not, pP_convInt, pP_convStr, pP_fieldAddr, pP_field, pP_indexAddr, pP_indexStr, pP_sliceStr, pP_sliceSl, pP_lenStr, pP_lenNil, pP_lenSl, pP_min, pP_max, pP_extract, pP_mkfn, bV_add, bV_sub, bV_mul, bV_quo, bV_rem, bV_and, bV_or, bV_xor, bV_andNot, bV_eql, bV_neq, bV_lss, bV_leq, bV_gtr, bV_geq, bV_shl, bV_shr, bV_str, eV_bool, eV_nn, eV_np, eV_pn, eV_snn, eV_sns, eV_ssn, eV_mnn, eV_mnm, eV_mmn, eV_fnn, eV_fnf, eV_ffn, eV_agg, rP_load, rP_lenNil, rP_str0, rdEl_K, rdK_row, aP_alloc, aP_box, aP_buildSlice, aP_makeSlice, aP_makeMap, aP_toBytes, hP_store, storeK_some, st_K, stK_row, stE_some, cells_agg, cells_bool, scalar_bool, cells_int, scalar_int, cells_str, scalar_str, cells_nilptr, scalar_nilptr, cells_ptr, scalar_ptr, cells_nilslice, scalar_nilslice, cells_slice, scalar_slice, cells_nilmap, scalar_nilmap, cells_map, scalar_map, cells_nilfunc, scalar_nilfunc, cells_func, scalar_func, eqCells, eqLeaf, run_toL, toL_some, ev_toL, getD_toL, put_toL, keep_toL, asc, fput_same, fput_ne, fbase_nil, fbase_cons, fkeep_nil, fkeep_cons, fzero, fnone, List.map_cons, List.map_nil, ev_lit, put_none, resVals, resVal, resOf, partV, fillA, putCells, fillEls, strBin, minV, optNat, appendEls, elsOf, sliceSlV, sliceStrV, List.replicate, List.getElem?_append_left, List.getElem?_append_right, List.set_append_left, List.set_append_right, List.getElem?_set_self, List.getElem?_set_ne, hq_get0, hq_get, hq_get2, hq_get3, hp_get0, hp_get, hp_get2, hp_get3, hp_set0, hp_set, hp_set2, hp_set3, wr_0, wr_1, wr_2, wr_3, wr_4, wr_n1, e2_10, ex2, q1, q3, q5, lv, d5, d5', h5, n1, n2, sv.1, sv.2]
  repeat (first | apply yld_endFn | apply yld_seqK | apply yld_blockK | apply yld_regK | apply yld_opsK | apply yld_putK | apply yld_stgK | apply yld_chkK)
  refine once_loop (by simp [sf7, loopsAll]) hN (by omega) o0 (by rfl) (by rfl) (by rfl) (by rfl) (by rfl) (by rfl) (by rfl) (by rfl) (by rfl) (by rfl) ?_
  intro f k A B R n cb qa va vb rv l f5 f6 f9 f10 w b hn tA
  have sr := w.r.cells
  have sr2 := w.r.scalar
  have u0 : Un 0 A := by
    by_cases h0 : A.waits = []
    · exact .inl h0
    · obtain ⟨w', hw, hm⟩ := head_of h0
      have := tA.at0 w' hm
      exact .inr ⟨by omega, w', hw, by omega, by omega⟩
  simp [yld_some, exec_reg, exec_dreg, exec_seq, exec_cond, exec_block, exec_scope, exec_exit, exec_ret, exec_skip, exec_loop, ops_nil, ops_cons, ops_cons_gd, stages_nil, stages_cons_n, stages_cons_h, recheck, wantsOp, AV.same, sames, evalOp_p, evalOp_r, evalOp_a, evalOp_call, evalOp_callV, evalOp_store, evalOp_append, evalOp_clear, evalOp_mapUpdate, evalOp_delete, pP_move, pP_pick, pP_build, pP_nil_ptr, pP_nil_func, pP_bin, pP_eq, pP_neg, pP_inv, pP_not, pP_convInt, pP_convStr, pP_fieldAddr, pP_field, pP_indexAddr, pP_indexStr, pP_sliceStr, pP_sliceSl, pP_lenStr, pP_lenNil, pP_lenSl, pP_min, pP_max, pP_extract, pP_mkfn, bV_add, bV_sub, bV_mul, bV_quo, bV_rem, bV_and, bV_or, bV_xor, bV_andNot, bV_eql, bV_neq, bV_lss, bV_leq, bV_gtr, bV_geq, bV_shl, bV_shr, bV_str, eV_bool, eV_nn, eV_np, eV_pn, eV_snn, eV_sns, eV_ssn, eV_mnn, eV_mnm, eV_mmn, eV_fnn, eV_fnf, eV_ffn, eV_agg, rP_load, rP_lenNil, rP_str0, rdEl_K, rdK_row, aP_alloc, aP_box, aP_buildSlice, aP_makeSlice, aP_makeMap, aP_toBytes, hP_store, storeK_some, st_K, stK_row, stE_some, cells_agg, cells_bool, scalar_bool, cells_int, scalar_int, cells_str, scalar_str, cells_nilptr, scalar_nilptr, cells_ptr, scalar_ptr, cells_nilslice, scalar_nilslice, cells_slice, scalar_slice, cells_nilmap, scalar_nilmap, cells_map, scalar_map, cells_nilfunc, scalar_nilfunc, cells_func, scalar_func, eqCells, eqLeaf, run_toL, toL_some, ev_toL, getD_toL, put_toL, keep_toL, asc, fput_same, fput_ne, fbase_nil, fbase_cons, fkeep_nil, fkeep_cons, fzero, fnone, List.map_cons, List.map_nil, ev_lit, put_none, resVals, resVal, resOf, partV, fillA, putCells, fillEls, strBin, minV, optNat, appendEls, elsOf, sliceSlV, sliceStrV, List.replicate, List.getElem?_append_left, List.getElem?_append_right, List.set_append_left, List.set_append_right, List.getElem?_set_self, List.getElem?_set_ne, hq_get0, hq_get, hq_get2, hq_get3, hp_get0, hp_get, hp_get2, hp_get3, hp_set0, hp_set, hp_set2, hp_set3, wr_0, wr_1, wr_2, wr_3, wr_4, wr_n1, f5, f6, f9, f10, sr, sr2]
  repeat (first | apply yld_endFn | apply yld_seqK | apply yld_blockK | apply yld_regK | apply yld_opsK | apply yld_putK | apply yld_stgK | apply yld_chkK)
  refine end_loop (by simp [sf7, loopsAll]) hn w.cut b (by have := w.len; simp; omega) u0 (by have := tA.now; omega) (by simp [fput, f5]) (by simp [fput, f6]) (by simp [fput, f9]) (by simp [fput, f10]) (by rfl) ?_
  intro f k A B R cb qa va vb rv l f5 f6 f9 f10 w b wA
  have e1 := b.waits.nil wA
  have i1 := b.kept'.cn
  have i3 := b.q
  have ec : cb = n := by omega
  subst ec
  have kA := b.kept.full
  have kB := b.kept'.full
  have wB := b.waits'.done
  have or := w.r
  rw [b.told] at or
  have r1 := rest_call w.a
  have r2 := rest_call w.b
  have r3 := came_call w.b
  rw [wA, kA] at r1
  rw [wB, kB] at r2
  rw [b.came'] at r3
  have lr := own_len or
  have x1 : (lts (seg xk 0 cb)).length = cb := by simp [lts, seg_len]
  rw [x1] at lr
  have sr := or.cells
  have sr2 := or.scalar
  simp at r1 r2
  simp [yld_some, exec_reg, exec_dreg, exec_seq, exec_cond, exec_block, exec_scope, exec_exit, exec_ret, exec_skip, exec_loop, ops_nil, ops_cons, ops_cons_gd, stages_nil, stages_cons_n, stages_cons_h, recheck, wantsOp, AV.same, sames, evalOp_p, evalOp_r, evalOp_a, evalOp_call, evalOp_callV, evalOp_store, evalOp_append, evalOp_clear, evalOp_mapUpdate, evalOp_delete, pP_move, pP_pick, pP_build, pP_nil_ptr, pP_nil_func, pP_bin, pP_eq, pP_neg, pP_inv, pP_not, pP_convInt, pP_convStr, pP_fieldAddr, pP_field, pP_indexAddr, pP_indexStr, pP_sliceStr, pP_sliceSl, pP_lenStr, pP_lenNil, pP_lenSl, pP_min, pP_max, pP_extract, pP_mkfn, bV_add, bV_sub, bV_mul, bV_quo, bV_rem, bV_and, bV_or, bV_xor, bV_andNot, bV_eql, bV_neq, bV_lss, bV_leq, bV_gtr, bV_geq, bV_shl, bV_shr, bV_str, eV_bool, eV_nn, eV_np, eV_pn, eV_snn, eV_sns, eV_ssn, eV_mnn, eV_mnm, eV_mmn, eV_fnn, eV_fnf, eV_ffn, eV_agg, rP_load, rP_lenNil, rP_str0, rdEl_K, rdK_row, aP_alloc, aP_box, aP_buildSlice, aP_makeSlice, aP_makeMap, aP_toBytes, hP_store, storeK_some, st_K, stK_row, stE_some, cells_agg, cells_bool, scalar_bool, cells_int, scalar_int, cells_str, scalar_str, cells_nilptr, scalar_nilptr, cells_ptr, scalar_ptr, cells_nilslice, scalar_nilslice, cells_slice, scalar_slice, cells_nilmap, scalar_nilmap, cells_map, scalar_map, cells_nilfunc, scalar_nilfunc, cells_func, scalar_func, eqCells, eqLeaf, run_toL, toL_some, ev_toL, getD_toL, put_toL, keep_toL, asc, fput_same, fput_ne, fbase_nil, fbase_cons, fkeep_nil, fkeep_cons, fzero, fnone, List.map_cons, List.map_nil, ev_lit, put_none, resVals, resVal, resOf, partV, fillA, putCells, fillEls, strBin, minV, optNat, appendEls, elsOf, sliceSlV, sliceStrV, List.replicate, List.getElem?_append_left, List.getElem?_append_right, List.set_append_left, List.set_append_right, List.getElem?_set_self, List.getElem?_set_ne, hq_get0, hq_get, hq_get2, hq_get3, hp_get0, hp_get, hp_get2, hp_get3, hp_set0, hp_set, hp_set2, hp_set3, wr_0, wr_1, wr_2, wr_3, wr_4, wr_n1, f5, f6, f9, f10, sr, sr2, lr, r1, r2, r3]
  repeat (first | apply yld_endFn | apply yld_seqK | apply yld_blockK | apply yld_regK | apply yld_opsK | apply yld_putK | apply yld_stgK | apply yld_chkK)
  refine order_loop (by simp [sf7, loopsAll]) hn or (by simp [fput, f9]) (by rfl) ?_
  intro f
  simp [yld_some, exec_reg, exec_dreg, exec_seq, exec_cond, exec_block, exec_scope, exec_exit, exec_ret, exec_skip, exec_loop, ops_nil, ops_cons, ops_cons_gd, stages_nil, stages_cons_n, stages_cons_h, recheck, wantsOp, AV.same, sames, evalOp_p, evalOp_r, evalOp_a, evalOp_call, evalOp_callV, evalOp_store, evalOp_append, evalOp_clear, evalOp_mapUpdate, evalOp_delete, pP_move, pP_pick, pP_build, pP_nil_ptr, pP_nil_func, pP_bin, pP_eq, pP_neg, pP_inv, pP_not, pP_convInt, pP_convStr, pP_fieldAddr, pP_field, pP_indexAddr, pP_indexStr, pP_sliceStr, pP_sliceSl, pP_lenStr, pP_lenNil, pP_lenSl, pP_min, pP_max, pP_extract, pP_mkfn, bV_add, bV_sub, bV_mul, bV_quo, bV_rem, bV_and, bV_or, bV_xor, bV_andNot, bV_eql, bV_neq, bV_lss, bV_leq, bV_gtr, bV_geq, bV_shl, bV_shr, bV_str, eV_bool, eV_nn, eV_np, eV_pn, eV_snn, eV_sns, eV_ssn, eV_mnn, eV_mnm, eV_mmn, eV_fnn, eV_fnf, eV_ffn, eV_agg, rP_load, rP_lenNil, rP_str0, rdEl_K, rdK_row, aP_alloc, aP_box, aP_buildSlice, aP_makeSlice, aP_makeMap, aP_toBytes, hP_store, storeK_some, st_K, stK_row, stE_some, cells_agg, cells_bool, scalar_bool, cells_int, scalar_int, cells_str, scalar_str, cells_nilptr, scalar_nilptr, cells_ptr, scalar_ptr, cells_nilslice, scalar_nilslice, cells_slice, scalar_slice, cells_nilmap, scalar_nilmap, cells_map, scalar_map, cells_nilfunc, scalar_nilfunc, cells_func, scalar_func, eqCells, eqLeaf, run_toL, toL_some, ev_toL, getD_toL, put_toL, keep_toL, asc, fput_same, fput_ne, fbase_nil, fbase_cons, fkeep_nil, fkeep_cons, fzero, fnone, List.map_cons, List.map_nil, ev_lit, put_none, resVals, resVal, resOf, partV, fillA, putCells, fillEls, strBin, minV, optNat, appendEls, elsOf, sliceSlV, sliceStrV, List.replicate, List.getElem?_append_left, List.getElem?_append_right, List.set_append_left, List.set_append_right, List.getElem?_set_self, List.getElem?_set_ne, hq_get0, hq_get, hq_get2, hq_get3, hp_get0, hp_get, hp_get2, hp_get3, hp_set0, hp_set, hp_set2, hp_set3, wr_0, wr_1, wr_2, wr_3, wr_4, wr_n1]
  exact hQ' _
end Go.Proofs.Ytmbkklobijflkaa.Lk
namespace Go.Proofs.Ytmbkklobijflkaa.Pure
open Go Go.Eng
theorem LinkOnce : LawOk Try.prog 7 F.ss7 := by
  refine ⟨Lk.fs2, Lk.ex2, Lk.fs2_ok, Lk.ex2_ok, fun vs h _ hv => ?_⟩
  simp only [F.ss7, HasVs, HasV, HasF, Has] at hv
  obtain ⟨_, _, rfl, ⟨n, ha, _⟩, _, _, rfl, ⟨v, els, hz, hs, hbz, hm, he⟩, rfl⟩ := hv
  cases ha
  cases hz
  have : ∃ L : List Int, els = Lk.ints L := by
    clear hs hm hbz
    induction els with
    | nil => exact ⟨[], rfl⟩
    | cons e els ih =>
      obtain ⟨L, rfl⟩ := ih (fun x hx => he x (List.mem_cons_of_mem _ hx))
      obtain ⟨n, rfl, _⟩ := he e (List.mem_cons_self ..)
      exact ⟨n :: L, rfl⟩
  obtain ⟨L, rfl⟩ := this
  exact Lk.once_law hs n
end Go.Proofs.Ytmbkklobijflkaa.Pure
