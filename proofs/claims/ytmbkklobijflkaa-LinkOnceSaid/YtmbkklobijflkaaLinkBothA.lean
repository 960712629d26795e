/- Link: LinkBoth over the engine. (written by genboth.py) -/
import Derived.Test.YtmbkklobijflkaaLinkI
set_option maxRecDepth 100000
set_option linter.unusedVariables false
set_option linter.unusedSimpArgs false
namespace Go.Proofs.Ytmbkklobijflkaa.Lk
open Go Go.Eng F

/-- All that is there: the ends, and the letters that were told. -/
structure Wd (k : H) (l : List (List Nat)) (ga ma gb mb : Nat) (va vb rv lv : AV) (A B : Ls) (R L : List Lt) : Prop where
  sp : Sep k l
  fa : l.getD 0 [] = ga :: ma :: foot va
  fb : l.getD 1 [] = gb :: mb :: foot vb
  fr : l.getD 2 [] = foot rv
  fl : l.getD 3 [] = foot lv
  len : 4 ≤ l.length
  a : LinkAt k ga ma va A
  b : LinkAt k gb mb vb B
  r : Own k 21 rv (lts R)
  l : Own k 21 lv (lts L)
theorem Wd.more {k : H} {l : List (List Nat)} {ga ma gb mb : Nat} {va vb rv lv : AV} {A B : Ls} {R L : List Lt} (w : Wd k l ga ma gb mb va vb rv lv A B R L) (k' : H) : Wd (k ++ k') l ga ma gb mb va vb rv lv A B R L :=
  ⟨w.sp.more (by simp), w.fa, w.fb, w.fr, w.fl, w.len, w.a.keep' (Chg.app _ _ []) (by simp), w.b.keep' (Chg.app _ _ []) (by simp), w.r.keep (Chg.app _ _ []) (by simp), w.l.keep (Chg.app _ _ []) (by simp)⟩
theorem set3 (l : List (List Nat)) (i j m n : Nat) (F G K : List Nat) (hi : i < l.length) (hj : j < l.length) (hm : m < l.length) : (((l.set i F).set j G).set m K).getD n [] = if m = n then K else if j = n then G else if i = n then F else l.getD n [] := by
  rw [getD_set _ _ _ _ (by simpa using hm), getD_set _ _ _ _ (by simpa using hj), getD_set _ _ _ _ hi]
/-- A letter goes up. -/
theorem Wd.up {x y : Nat → Lt} {n m ca cb qa qb : Nat} {k : H} {l : List (List Nat)} {ga ma gb mb : Nat} {va vb rv lv : AV} {A B : Ls} {R L : List Lt} (w : Wd k l ga ma gb mb va vb rv lv A B R L) {za zb : Int} (b : Bo x y za zb n m A B R L ca cb qa qb) (hn : n ≤ 64) (hm : m ≤ 64) {j a0 : Nat} (h1 : 1 ≤ j) (h2 : j ≤ n) (h3 : a0 ≤ ca) :
    ∃ vo k1 ack rv' k2 vo2 k3 va' vb' A' B' cb' o l', call fs2 ex2 12 [.ptr gb 0 0, .agg (Pk.av ⟨za, zb, (j : Int), (a0 : Int), x j⟩)] k = some (.tuple [vo, .agg (Pk.av ack), .bool true], k1) ∧
      appendV 21 false rv vo (k1 ++ [.row 25 [ack.av] true true]) = some (rv', k2) ∧ k2[k1.length]? = some (.row 25 [ack.av] true true) ∧
      call fs2 ex2 12 [.ptr ga 0 0, .agg ack.av] k2 = some (.tuple [vo2, .agg Pk.zero.av, .bool true], k3) ∧
      Wd k3 l' ga ma gb mb va' vb' rv' lv A' B' (R ++ o) L ∧ Bo x y za zb n m A' B' (R ++ o) L ca cb' (max qa cb') (max qb a0) ∧ cb ≤ cb' ∧ (j ≤ cb + 1 → j ≤ cb') ∧ A'.now = A.now ∧ B'.now = B.now ∧ (∀ w ∈ A'.waits, w ∈ A.waits) ∧ (∀ w ∈ B'.waits, w ∈ B.waits) ∧
      (∀ i, 4 ≤ i → l'.getD i [] = l.getD i []) ∧ l'.length = l.length ∧ (∀ i, 4 ≤ i → ∀ c ∈ l.getD i [], c ∉ l.getD 0 [] ++ l.getD 1 [] ++ l.getD 2 []) ∧ Chg k k3 (l.getD 0 [] ++ l.getD 1 [] ++ l.getD 2 []) := by
  obtain ⟨A', B', cb', o, ack, e1, e2, e3, b', e4, e5, e6, e7, e8, e9, e10⟩ := b.up hn h1 h2 h3
  have hl := w.len
  have sa := b.sizes (by omega) (by omega)
  have sb := b.symm.sizes (by omega) (by omega)
  have hR : R.length ≤ 64 := by rw [b.told, seg_len]; have := b.kept'.cn; omega
  obtain ⟨vo, k1, rv', k2, vo2, k3, va', vb', d1, d2, d3, d4, d5, d6, d7, d8, d9⟩ := deliver w.sp (ia := 0) (ib := 1) (ir := 2) (by omega) (by omega) (by omega) (by omega) (by omega) (by omega) w.fa w.fb w.fr w.a w.b w.r (by omega) (by omega) (by omega) (by omega) (by omega) (by omega) (by simp; omega) e1 (by omega) e2 (by omega)
  refine ⟨vo, k1, ack, rv', k2, vo2, k3, va', vb', A', B', cb', o, _, d1, d2, d3, d4, ⟨d9, ?_, ?_, ?_, ?_, by simpa using hl, d5, d6, d7, w.l.keep d8 (w.sp.off (i := 3) (by omega) (by omega) (by omega) w.fl)⟩, b', e4, e5, e6, e7, e8, e9, fun i hi => ?_, by simp, fun i hi => w.sp.off (by omega) (by omega) (by omega) rfl, d8⟩
  · rw [set3 _ _ _ _ _ _ _ _ (by omega) (by omega) (by omega)]; rfl
  · rw [set3 _ _ _ _ _ _ _ _ (by omega) (by omega) (by omega)]; rfl
  · rw [set3 _ _ _ _ _ _ _ _ (by omega) (by omega) (by omega)]; rfl
  · rw [set3 _ _ _ _ _ _ _ _ (by omega) (by omega) (by omega)]; exact w.fl
  · rw [set3 _ _ _ _ _ _ _ _ (by omega) (by omega) (by omega), if_neg (by omega), if_neg (by omega), if_neg (by omega)]
/-- A letter goes down. -/
theorem Wd.down {x y : Nat → Lt} {n m ca cb qa qb : Nat} {k : H} {l : List (List Nat)} {ga ma gb mb : Nat} {va vb rv lv : AV} {A B : Ls} {R L : List Lt} (w : Wd k l ga ma gb mb va vb rv lv A B R L) {za zb : Int} (b : Bo x y za zb n m A B R L ca cb qa qb) (hn : n ≤ 64) (hm : m ≤ 64) {j a0 : Nat} (h1 : 1 ≤ j) (h2 : j ≤ m) (h3 : a0 ≤ cb) :
    ∃ vo k1 ack lv' k2 vo2 k3 va' vb' A' B' ca' o l', call fs2 ex2 12 [.ptr ga 0 0, .agg (Pk.av ⟨zb, za, (j : Int), (a0 : Int), y j⟩)] k = some (.tuple [vo, .agg (Pk.av ack), .bool true], k1) ∧
      appendV 21 false lv vo (k1 ++ [.row 25 [ack.av] true true]) = some (lv', k2) ∧ k2[k1.length]? = some (.row 25 [ack.av] true true) ∧
      call fs2 ex2 12 [.ptr gb 0 0, .agg ack.av] k2 = some (.tuple [vo2, .agg Pk.zero.av, .bool true], k3) ∧
      Wd k3 l' ga ma gb mb va' vb' rv lv' A' B' R (L ++ o) ∧ Bo x y za zb n m A' B' R (L ++ o) ca' cb (max qa a0) (max qb ca') ∧ ca ≤ ca' ∧ (j ≤ ca + 1 → j ≤ ca') ∧ A'.now = A.now ∧ B'.now = B.now ∧ (∀ w ∈ A'.waits, w ∈ A.waits) ∧ (∀ w ∈ B'.waits, w ∈ B.waits) ∧
      (∀ i, 4 ≤ i → l'.getD i [] = l.getD i []) ∧ l'.length = l.length ∧ (∀ i, 4 ≤ i → ∀ c ∈ l.getD i [], c ∉ l.getD 1 [] ++ l.getD 0 [] ++ l.getD 3 []) ∧ Chg k k3 (l.getD 1 [] ++ l.getD 0 [] ++ l.getD 3 []) := by
  obtain ⟨B', A', ca', o, ack, e1, e2, e3, b', e4, e5, e6, e7, e8, e9, e10⟩ := b.symm.up hm h1 h2 h3
  have hl := w.len
  have sa := b.sizes (by omega) (by omega)
  have sb := b.symm.sizes (by omega) (by omega)
  have hR : L.length ≤ 64 := by rw [b.told', seg_len]; have := b.kept.cn; omega
  obtain ⟨vo, k1, rv', k2, vo2, k3, vb', va', d1, d2, d3, d4, d5, d6, d7, d8, d9⟩ := deliver w.sp (ia := 1) (ib := 0) (ir := 3) (by omega) (by omega) (by omega) (by omega) (by omega) (by omega) w.fb w.fa w.fl w.b w.a w.l (by omega) (by omega) (by omega) (by omega) (by omega) (by omega) (by simp; omega) e1 (by omega) e2 (by omega)
  refine ⟨vo, k1, ack, rv', k2, vo2, k3, va', vb', A', B', ca', o, _, d1, d2, d3, d4, ⟨d9, ?_, ?_, ?_, ?_, by simpa using hl, d6, d5, w.r.keep d8 (w.sp.off (i := 2) (by omega) (by omega) (by omega) w.fr), d7⟩, b'.symm, e4, e5, e7, e6, e9, e8, fun i hi => ?_, by simp, fun i hi => w.sp.off (by omega) (by omega) (by omega) rfl, d8⟩
  · rw [set3 _ _ _ _ _ _ _ _ (by omega) (by omega) (by omega)]; rfl
  · rw [set3 _ _ _ _ _ _ _ _ (by omega) (by omega) (by omega)]; rfl
  · rw [set3 _ _ _ _ _ _ _ _ (by omega) (by omega) (by omega)]; exact w.fr
  · rw [set3 _ _ _ _ _ _ _ _ (by omega) (by omega) (by omega)]; rfl
  · rw [set3 _ _ _ _ _ _ _ _ (by omega) (by omega) (by omega), if_neg (by omega), if_neg (by omega), if_neg (by omega)]
/-- What goes again. -/
def agn (x : Nat → Lt) (za zb : Int) (n q ca : Nat) : List Pk := (List.range' (q + 1) (n - q)).map fun k : Nat => ⟨za, zb, (k : Int), (ca : Int), x k⟩
theorem agn_len (x : Nat → Lt) (za zb : Int) (n q ca : Nat) : (agn x za zb n q ca).length = n - q := by simp [agn]
theorem agn_get (x : Nat → Lt) (za zb : Int) (n q ca : Nat) {i : Nat} (h : i < (pks (agn x za zb n q ca)).length) : (pks (agn x za zb n q ca))[i] = Pk.av ⟨za, zb, ((q + 1 + i : Nat) : Int), (ca : Int), x (q + 1 + i)⟩ := by
  simp [pks, agn]
set_option maxHeartbeats 16000000 in
theorem up_loop {lvs : List Nat} {body : SCode} (hb : (loopsAll sf9.body)[4]? = some (lvs, body)) {x y : Nat → Lt} {za zb : Int} {n m q t N : Nat} (hn : n ≤ 20) (hm : m ≤ 20) {ga ma gb mb : Nat} {kk : H} {A0 B0 : Ls} {R0 L : List Lt} {ca cb0 qa0 qb0 : Nat} {va0 vb0 rv0 lv : AV} {l0 : List (List Nat)} {ag : AV} {f : Nat → AV}
    (w0 : Wd kk l0 ga ma gb mb va0 vb0 rv0 lv A0 B0 R0 L) (b0 : Bo x y za zb n m A0 B0 R0 L ca cb0 qa0 qb0) (hl0 : l0.length = 5) (h4 : l0.getD 4 [] = foot ag) (oag : Own kk 25 ag (pks (agn x za zb N q ca))) (hq0 : q ≤ cb0) (hq1 : q ≤ qa0) (hqn : q ≤ N) (hN : N ≤ n)
    (f0 : f 0 = .int .i64 (n : Nat)) (f1 : f 1 = .int .i64 (m : Nat)) (f7 : f 7 = .ptr ga 0 0) (f8 : f 8 = .ptr gb 0 0) (f13 : f 13 = lv) (f14 : f 14 = rv0) (f23 : f 23 = .int .i64 (t : Nat)) (fu : f 172 = ag) (fu1 : f 173 = .int .i64 ((N - q : Nat) : Int)) (fu2 : f 174 = .int .i64 0) {Q : (Ex × Env) × H → Prop}
    (hQ : ∀ (f' : Nat → AV) (k' : H) (A B : Ls) (R : List Lt) (cb qa qb : Nat) (va vb rv : AV) (l' : List (List Nat)), f' 0 = .int .i64 (n : Nat) → f' 1 = .int .i64 (m : Nat) → f' 7 = .ptr ga 0 0 → f' 8 = .ptr gb 0 0 → f' 13 = lv → f' 14 = rv → f' 23 = .int .i64 (t : Nat) → Wd k' l' ga ma gb mb va vb rv lv A B R L → Bo x y za zb n m A B R L ca cb qa qb → N ≤ cb → q ≤ qa → (q < N → cb ≤ qa) →
      A.now = A0.now → B.now = B0.now → (∀ w ∈ A.waits, w ∈ A0.waits) → (∀ w ∈ B.waits, w ∈ B0.waits) → Q ((.exit 8, toL 261 f'), k')) :
    Yld (itw (fun env => exec (call fs2 ex2) itw body (keepFrom lvs 0 env)) (toL 261 f) kk) Q := by
  simp [sf9, loopsAll] at hb
  obtain ⟨rfl, rfl⟩ := hb
  refine yld_rounds (fun z e k => ∃ (f : Nat → AV) (i : Nat) (A B : Ls) (R : List Lt) (cb qa qb : Nat) (va vb rv : AV) (l : List (List Nat)), e = toL 261 f ∧ z = (N - q) - i ∧ i ≤ N - q ∧ Wd k l ga ma gb mb va vb rv lv A B R L ∧ Bo x y za zb n m A B R L ca cb qa qb ∧ l.length = 5 ∧ l.getD 4 [] = foot ag ∧ Own k 25 ag (pks (agn x za zb N q ca)) ∧
    (q + i ≤ cb ∧ q ≤ qa ∧ (0 < i → cb ≤ qa)) ∧ (A.now = A0.now ∧ B.now = B0.now ∧ (∀ w ∈ A.waits, w ∈ A0.waits) ∧ (∀ w ∈ B.waits, w ∈ B0.waits)) ∧
    f 0 = .int .i64 (n : Nat) ∧ f 1 = .int .i64 (m : Nat) ∧ f 7 = .ptr ga 0 0 ∧ f 8 = .ptr gb 0 0 ∧ f 13 = lv ∧ f 14 = rv ∧ f 23 = .int .i64 (t : Nat) ∧ f 172 = ag ∧ f 173 = .int .i64 ((N - q : Nat) : Int) ∧ f 174 = .int .i64 (i : Nat)) ((N - q) - 0) ?_ ?_
  · exact ⟨f, 0, A0, B0, R0, cb0, qa0, qb0, va0, vb0, rv0, l0, rfl, rfl, Nat.zero_le _, w0, b0, hl0, h4, oag, ⟨by omega, hq1, by omega⟩, ⟨rfl, rfl, fun _ h => h, fun _ h => h⟩, f0, f1, f7, f8, f13, f14, f23, fu, fu1, fu2⟩
  · clear f0 f1 f7 f8 f13 f14 f23 fu fu1 fu2
    rintro J Q' hJ hQ' z e k ⟨f, i, A, B, R, cb, qa, qb, va, vb, rv, l, rfl, rfl, hi, w1, b, hl, h4, oag, ⟨g1, g2, g3⟩, ⟨t1, t2, t3, t4⟩, f0, f1, f7, f8, f13, f14, f23, fu, fu1, fu2⟩
    have hcn := b.kept'.cn
    have hqq := b.waits.1
    by_cases hil : i < N - q
    · have d0 : decide ((i : Int) < ((N - q : Nat) : Int)) = true := dec_true (by omega)
      have hwi : IntKind.i64.wrap ((i : Int) + 1) = ((i + 1 : Nat) : Int) := wrap_i64 (by omega) (by omega)
      have hlen : i < (pks (agn x za zb N q ca)).length := by simpa [pks, agn_len] using hil
      obtain ⟨pb, ip, gp⟩ := own_idx oag hlen
      rw [agn_get] at gp
      have w0 := w1.more [.row 25 [Pk.av ⟨za, zb, ((q + 1 + i : Nat) : Int), (ca : Int), x (q + 1 + i)⟩] true true]
      obtain ⟨vo, k1, ack, rv', k2, vo2, k3, va', vb', A', B', cb', o, l', d1, d2, d3, d4, w2, b2, d5, d6, d7, d8, d9, d10, d11, d12, d13, d14⟩ := w0.up b (by omega) (by omega) (j := q + 1 + i) (a0 := ca) (by omega) (by omega) (Nat.le_refl _)
      have oag2 := (oag.keep (Chg.app k [.row 25 [Pk.av ⟨za, zb, ((q + 1 + i : Nat) : Int), (ca : Int), x (q + 1 + i)⟩] true true] []) (by simp)).keep d14 (by rw [← h4]; exact d13 4 (by omega))
      have sv := w2.r.cells
      generalize hgn : N - q = NQ at *
      generalize hj : q + 1 + i = j at *
      unfold Pk.av at gp d1 d2 d3 d4
      simp [yld_some, exec_reg, exec_dreg, exec_seq, exec_cond, exec_block, exec_scope, exec_exit, exec_ret, exec_skip, exec_loop, ops_nil, ops_cons, ops_cons_gd, stages_nil, stages_cons_n, stages_cons_h, recheck, wantsOp, AV.same, sames, evalOp_p, evalOp_r, evalOp_a, evalOp_call, evalOp_callV, evalOp_store, evalOp_append, evalOp_clear, evalOp_mapUpdate, evalOp_delete, pP_move, pP_pick, pP_build, pP_nil_ptr, pP_nil_func, pP_bin, pP_eq, pP_neg, pP_inv, pP_not, pP_convInt, pP_convStr, pP_fieldAddr, pP_field, pP_indexAddr, pP_indexStr, pP_sliceStr, pP_sliceSl, pP_lenStr, pP_lenNil, pP_lenSl, pP_min, pP_max, pP_extract, pP_mkfn, bV_add, bV_sub, bV_mul, bV_quo, bV_rem, bV_and, bV_or, bV_xor, bV_andNot, bV_eql, bV_neq, bV_lss, bV_leq, bV_gtr, bV_geq, bV_shl, bV_shr, bV_str, eV_bool, eV_nn, eV_np, eV_pn, eV_snn, eV_sns, eV_ssn, eV_mnn, eV_mnm, eV_mmn, eV_fnn, eV_fnf, eV_ffn, eV_agg, rP_load, rP_lenNil, rP_str0, rdEl_K, rdK_row, aP_alloc, aP_box, aP_buildSlice, aP_makeSlice, aP_makeMap, aP_toBytes, hP_store, storeK_some, st_K, stK_row, stE_some, cells_agg, cells_bool, scalar_bool, cells_int, scalar_int, cells_str, scalar_str, cells_nilptr, scalar_nilptr, cells_ptr, scalar_ptr, cells_nilslice, scalar_nilslice, cells_slice, scalar_slice, cells_nilmap, scalar_nilmap, cells_map, scalar_map, cells_nilfunc, scalar_nilfunc, cells_func, scalar_func, eqCells, eqLeaf, run_toL, toL_some, ev_toL, getD_toL, put_toL, keep_toL, asc, fput_same, fput_ne, fbase_nil, fbase_cons, fkeep_nil, fkeep_cons, fzero, fnone, List.map_cons, List.map_nil, ev_lit, put_none, resVals, resVal, resOf, partV, fillA, putCells, fillEls, strBin, minV, optNat, appendEls, elsOf, sliceSlV, sliceStrV, List.replicate, List.getElem?_append_left, List.getElem?_append_right, List.set_append_left, List.set_append_right, List.getElem?_set_self, List.getElem?_set_ne, hq_get0, hq_get, hq_get2, hq_get3, hp_get0, hp_get, hp_get2, hp_get3, hp_set0, hp_set, hp_set2, hp_set3, wr_0, wr_1, wr_2, wr_3, wr_4, wr_n1, f0, f1, f7, f8, f13, f14, f23, fu, fu1, fu2, d0, hil, ip, gp, d1, d2, d3, get_app d3, set_app d3, get_set_same d3, get_set_app d3, set_set_app d3, len_beq d3, beq_len d3, d4, hwi]
      refine ⟨NQ - (i + 1), by omega, hJ _ _ _ ⟨_, i + 1, A', B', R ++ o, cb', max qa cb', max qb ca, va', vb', rv', l', rfl, rfl, hil, w2, b2, d12.trans hl, (d11 4 (by omega)).trans h4, oag2, ⟨by have := d6; omega, by omega, fun _ => by omega⟩, ⟨d7.trans t1, d8.trans t2, fun w h => t3 w (d9 w h), fun w h => t4 w (d10 w h)⟩, rfl, rfl, rfl, rfl, rfl, rfl, rfl, rfl, rfl, rfl⟩⟩
    · have hin : i = N - q := by omega
      have d0 : decide ((i : Int) < ((N - q : Nat) : Int)) = false := dec_false (by omega)
      simp [yld_some, exec_reg, exec_dreg, exec_seq, exec_cond, exec_block, exec_scope, exec_exit, exec_ret, exec_skip, exec_loop, ops_nil, ops_cons, ops_cons_gd, stages_nil, stages_cons_n, stages_cons_h, recheck, wantsOp, AV.same, sames, evalOp_p, evalOp_r, evalOp_a, evalOp_call, evalOp_callV, evalOp_store, evalOp_append, evalOp_clear, evalOp_mapUpdate, evalOp_delete, pP_move, pP_pick, pP_build, pP_nil_ptr, pP_nil_func, pP_bin, pP_eq, pP_neg, pP_inv, pP_not, pP_convInt, pP_convStr, pP_fieldAddr, pP_field, pP_indexAddr, pP_indexStr, pP_sliceStr, pP_sliceSl, pP_lenStr, pP_lenNil, pP_lenSl, pP_min, pP_max, pP_extract, pP_mkfn, bV_add, bV_sub, bV_mul, bV_quo, bV_rem, bV_and, bV_or, bV_xor, bV_andNot, bV_eql, bV_neq, bV_lss, bV_leq, bV_gtr, bV_geq, bV_shl, bV_shr, bV_str, eV_bool, eV_nn, eV_np, eV_pn, eV_snn, eV_sns, eV_ssn, eV_mnn, eV_mnm, eV_mmn, eV_fnn, eV_fnf, eV_ffn, eV_agg, rP_load, rP_lenNil, rP_str0, rdEl_K, rdK_row, aP_alloc, aP_box, aP_buildSlice, aP_makeSlice, aP_makeMap, aP_toBytes, hP_store, storeK_some, st_K, stK_row, stE_some, cells_agg, cells_bool, scalar_bool, cells_int, scalar_int, cells_str, scalar_str, cells_nilptr, scalar_nilptr, cells_ptr, scalar_ptr, cells_nilslice, scalar_nilslice, cells_slice, scalar_slice, cells_nilmap, scalar_nilmap, cells_map, scalar_map, cells_nilfunc, scalar_nilfunc, cells_func, scalar_func, eqCells, eqLeaf, run_toL, toL_some, ev_toL, getD_toL, put_toL, keep_toL, asc, fput_same, fput_ne, fbase_nil, fbase_cons, fkeep_nil, fkeep_cons, fzero, fnone, List.map_cons, List.map_nil, ev_lit, put_none, resVals, resVal, resOf, partV, fillA, putCells, fillEls, strBin, minV, optNat, appendEls, elsOf, sliceSlV, sliceStrV, List.replicate, List.getElem?_append_left, List.getElem?_append_right, List.set_append_left, List.set_append_right, List.getElem?_set_self, List.getElem?_set_ne, hq_get0, hq_get, hq_get2, hq_get3, hp_get0, hp_get, hp_get2, hp_get3, hp_set0, hp_set, hp_set2, hp_set3, wr_0, wr_1, wr_2, wr_3, wr_4, wr_n1, f0, f1, f7, f8, f13, f14, f23, fu, fu1, fu2, d0, hil]
      exact hQ' _ (hQ _ _ A B R cb qa qb va vb rv l rfl rfl rfl rfl rfl rfl rfl w1 b (by omega) g2 (fun h => g3 (by omega)) t1 t2 t3 t4)
set_option maxHeartbeats 16000000 in
theorem down_loop {lvs : List Nat} {body : SCode} (hb : (loopsAll sf9.body)[5]? = some (lvs, body)) {x y : Nat → Lt} {za zb : Int} {n m q t N : Nat} (hn : n ≤ 20) (hm : m ≤ 20) {ga ma gb mb : Nat} {kk : H} {A0 B0 : Ls} {R L0 : List Lt} {ca0 cb qa0 qb0 : Nat} {va0 vb0 rv lv0 : AV} {l0 : List (List Nat)} {ag : AV} {f : Nat → AV}
    (w0 : Wd kk l0 ga ma gb mb va0 vb0 rv lv0 A0 B0 R L0) (b0 : Bo x y za zb n m A0 B0 R L0 ca0 cb qa0 qb0) (hl0 : l0.length = 5) (h4 : l0.getD 4 [] = foot ag) (oag : Own kk 25 ag (pks (agn y zb za N q cb))) (hq0 : q ≤ ca0) (hq1 : q ≤ qb0) (hqn : q ≤ N) (hN : N ≤ m)
    (f0 : f 0 = .int .i64 (n : Nat)) (f1 : f 1 = .int .i64 (m : Nat)) (f7 : f 7 = .ptr ga 0 0) (f8 : f 8 = .ptr gb 0 0) (f13 : f 13 = lv0) (f14 : f 14 = rv) (f23 : f 23 = .int .i64 (t : Nat)) (fu : f 193 = ag) (fu1 : f 194 = .int .i64 ((N - q : Nat) : Int)) (fu2 : f 195 = .int .i64 0) {Q : (Ex × Env) × H → Prop}
    (hQ : ∀ (f' : Nat → AV) (k' : H) (A B : Ls) (L : List Lt) (ca qa qb : Nat) (va vb lv : AV) (l' : List (List Nat)), f' 0 = .int .i64 (n : Nat) → f' 1 = .int .i64 (m : Nat) → f' 7 = .ptr ga 0 0 → f' 8 = .ptr gb 0 0 → f' 13 = lv → f' 14 = rv → f' 23 = .int .i64 (t : Nat) → Wd k' l' ga ma gb mb va vb rv lv A B R L → Bo x y za zb n m A B R L ca cb qa qb → N ≤ ca → q ≤ qb → (q < N → ca ≤ qb) →
      A.now = A0.now → B.now = B0.now → (∀ w ∈ A.waits, w ∈ A0.waits) → (∀ w ∈ B.waits, w ∈ B0.waits) → Q ((.exit 10, toL 261 f'), k')) :
    Yld (itw (fun env => exec (call fs2 ex2) itw body (keepFrom lvs 0 env)) (toL 261 f) kk) Q := by
  simp [sf9, loopsAll] at hb
  obtain ⟨rfl, rfl⟩ := hb
  refine yld_rounds (fun z e k => ∃ (f : Nat → AV) (i : Nat) (A B : Ls) (L : List Lt) (ca qa qb : Nat) (va vb lv : AV) (l : List (List Nat)), e = toL 261 f ∧ z = (N - q) - i ∧ i ≤ N - q ∧ Wd k l ga ma gb mb va vb rv lv A B R L ∧ Bo x y za zb n m A B R L ca cb qa qb ∧ l.length = 5 ∧ l.getD 4 [] = foot ag ∧ Own k 25 ag (pks (agn y zb za N q cb)) ∧
    (q + i ≤ ca ∧ q ≤ qb ∧ (0 < i → ca ≤ qb)) ∧ (A.now = A0.now ∧ B.now = B0.now ∧ (∀ w ∈ A.waits, w ∈ A0.waits) ∧ (∀ w ∈ B.waits, w ∈ B0.waits)) ∧
    f 0 = .int .i64 (n : Nat) ∧ f 1 = .int .i64 (m : Nat) ∧ f 7 = .ptr ga 0 0 ∧ f 8 = .ptr gb 0 0 ∧ f 13 = lv ∧ f 14 = rv ∧ f 23 = .int .i64 (t : Nat) ∧ f 193 = ag ∧ f 194 = .int .i64 ((N - q : Nat) : Int) ∧ f 195 = .int .i64 (i : Nat)) ((N - q) - 0) ?_ ?_
  · exact ⟨f, 0, A0, B0, L0, ca0, qa0, qb0, va0, vb0, lv0, l0, rfl, rfl, Nat.zero_le _, w0, b0, hl0, h4, oag, ⟨by omega, hq1, by omega⟩, ⟨rfl, rfl, fun _ h => h, fun _ h => h⟩, f0, f1, f7, f8, f13, f14, f23, fu, fu1, fu2⟩
  · clear f0 f1 f7 f8 f13 f14 f23 fu fu1 fu2
    rintro J Q' hJ hQ' z e k ⟨f, i, A, B, L, ca, qa, qb, va, vb, lv, l, rfl, rfl, hi, w1, b, hl, h4, oag, ⟨g1, g2, g3⟩, ⟨t1, t2, t3, t4⟩, f0, f1, f7, f8, f13, f14, f23, fu, fu1, fu2⟩
    have hcn := b.kept.cn
    have hqq := b.waits'.1
    by_cases hil : i < N - q
    · have d0 : decide ((i : Int) < ((N - q : Nat) : Int)) = true := dec_true (by omega)
      have hwi : IntKind.i64.wrap ((i : Int) + 1) = ((i + 1 : Nat) : Int) := wrap_i64 (by omega) (by omega)
      have hlen : i < (pks (agn y zb za N q cb)).length := by simpa [pks, agn_len] using hil
      obtain ⟨pb, ip, gp⟩ := own_idx oag hlen
      rw [agn_get] at gp
      have w0 := w1.more [.row 25 [Pk.av ⟨zb, za, ((q + 1 + i : Nat) : Int), (cb : Int), y (q + 1 + i)⟩] true true]
      obtain ⟨vo, k1, ack, lv', k2, vo2, k3, va', vb', A', B', ca', o, l', d1, d2, d3, d4, w2, b2, d5, d6, d7, d8, d9, d10, d11, d12, d13, d14⟩ := w0.down b (by omega) (by omega) (j := q + 1 + i) (a0 := cb) (by omega) (by omega) (Nat.le_refl _)
      have oag2 := (oag.keep (Chg.app k [.row 25 [Pk.av ⟨zb, za, ((q + 1 + i : Nat) : Int), (cb : Int), y (q + 1 + i)⟩] true true] []) (by simp)).keep d14 (by rw [← h4]; exact d13 4 (by omega))
      have sv := w2.l.cells
      generalize hgn : N - q = NQ at *
      generalize hj : q + 1 + i = j at *
      unfold Pk.av at gp d1 d2 d3 d4
      simp [yld_some, exec_reg, exec_dreg, exec_seq, exec_cond, exec_block, exec_scope, exec_exit, exec_ret, exec_skip, exec_loop, ops_nil, ops_cons, ops_cons_gd, stages_nil, stages_cons_n, stages_cons_h, recheck, wantsOp, AV.same, sames, evalOp_p, evalOp_r, evalOp_a, evalOp_call, evalOp_callV, evalOp_store, evalOp_append, evalOp_clear, evalOp_mapUpdate, evalOp_delete, pP_move, pP_pick, pP_build, pP_nil_ptr, pP_nil_func, pP_bin, pP_eq, pP_neg, pP_inv, pP_not, pP_convInt, pP_convStr, pP_fieldAddr, pP_field, pP_indexAddr, pP_indexStr, pP_sliceStr, pP_sliceSl, pP_lenStr, pP_lenNil, pP_lenSl, pP_min, pP_max, pP_extract, pP_mkfn, bV_add, bV_sub, bV_mul, bV_quo, bV_rem, bV_and, bV_or, bV_xor, bV_andNot, bV_eql, bV_neq, bV_lss, bV_leq, bV_gtr, bV_geq, bV_shl, bV_shr, bV_str, eV_bool, eV_nn, eV_np, eV_pn, eV_snn, eV_sns, eV_ssn, eV_mnn, eV_mnm, eV_mmn, eV_fnn, eV_fnf, eV_ffn, eV_agg, rP_load, rP_lenNil, rP_str0, rdEl_K, rdK_row, aP_alloc, aP_box, aP_buildSlice, aP_makeSlice, aP_makeMap, aP_toBytes, hP_store, storeK_some, st_K, stK_row, stE_some, cells_agg, cells_bool, scalar_bool, cells_int, scalar_int, cells_str, scalar_str, cells_nilptr, scalar_nilptr, cells_ptr, scalar_ptr, cells_nilslice, scalar_nilslice, cells_slice, scalar_slice, cells_nilmap, scalar_nilmap, cells_map, scalar_map, cells_nilfunc, scalar_nilfunc, cells_func, scalar_func, eqCells, eqLeaf, run_toL, toL_some, ev_toL, getD_toL, put_toL, keep_toL, asc, fput_same, fput_ne, fbase_nil, fbase_cons, fkeep_nil, fkeep_cons, fzero, fnone, List.map_cons, List.map_nil, ev_lit, put_none, resVals, resVal, resOf, partV, fillA, putCells, fillEls, strBin, minV, optNat, appendEls, elsOf, sliceSlV, sliceStrV, List.replicate, List.getElem?_append_left, List.getElem?_append_right, List.set_append_left, List.set_append_right, List.getElem?_set_self, List.getElem?_set_ne, hq_get0, hq_get, hq_get2, hq_get3, hp_get0, hp_get, hp_get2, hp_get3, hp_set0, hp_set, hp_set2, hp_set3, wr_0, wr_1, wr_2, wr_3, wr_4, wr_n1, f0, f1, f7, f8, f13, f14, f23, fu, fu1, fu2, d0, hil, ip, gp, d1, d2, d3, get_app d3, set_app d3, get_set_same d3, get_set_app d3, set_set_app d3, len_beq d3, beq_len d3, d4, hwi]
      refine ⟨NQ - (i + 1), by omega, hJ _ _ _ ⟨_, i + 1, A', B', L ++ o, ca', max qa cb, max qb ca', va', vb', lv', l', rfl, rfl, hil, w2, b2, d12.trans hl, (d11 4 (by omega)).trans h4, oag2, ⟨by have := d6; omega, by omega, fun _ => by omega⟩, ⟨d7.trans t1, d8.trans t2, fun w h => t3 w (d9 w h), fun w h => t4 w (d10 w h)⟩, rfl, rfl, rfl, rfl, rfl, rfl, rfl, rfl, rfl, rfl⟩⟩
    · have hin : i = N - q := by omega
      have d0 : decide ((i : Int) < ((N - q : Nat) : Int)) = false := dec_false (by omega)
      simp [yld_some, exec_reg, exec_dreg, exec_seq, exec_cond, exec_block, exec_scope, exec_exit, exec_ret, exec_skip, exec_loop, ops_nil, ops_cons, ops_cons_gd, stages_nil, stages_cons_n, stages_cons_h, recheck, wantsOp, AV.same, sames, evalOp_p, evalOp_r, evalOp_a, evalOp_call, evalOp_callV, evalOp_store, evalOp_append, evalOp_clear, evalOp_mapUpdate, evalOp_delete, pP_move, pP_pick, pP_build, pP_nil_ptr, pP_nil_func, pP_bin, pP_eq, pP_neg, pP_inv, pP_not, pP_convInt, pP_convStr, pP_fieldAddr, pP_field, pP_indexAddr, pP_indexStr, pP_sliceStr, pP_sliceSl, pP_lenStr, pP_lenNil, pP_lenSl, pP_min, pP_max, pP_extract, pP_mkfn, bV_add, bV_sub, bV_mul, bV_quo, bV_rem, bV_and, bV_or, bV_xor, bV_andNot, bV_eql, bV_neq, bV_lss, bV_leq, bV_gtr, bV_geq, bV_shl, bV_shr, bV_str, eV_bool, eV_nn, eV_np, eV_pn, eV_snn, eV_sns, eV_ssn, eV_mnn, eV_mnm, eV_mmn, eV_fnn, eV_fnf, eV_ffn, eV_agg, rP_load, rP_lenNil, rP_str0, rdEl_K, rdK_row, aP_alloc, aP_box, aP_buildSlice, aP_makeSlice, aP_makeMap, aP_toBytes, hP_store, storeK_some, st_K, stK_row, stE_some, cells_agg, cells_bool, scalar_bool, cells_int, scalar_int, cells_str, scalar_str, cells_nilptr, scalar_nilptr, cells_ptr, scalar_ptr, cells_nilslice, scalar_nilslice, cells_slice, scalar_slice, cells_nilmap, scalar_nilmap, cells_map, scalar_map, cells_nilfunc, scalar_nilfunc, cells_func, scalar_func, eqCells, eqLeaf, run_toL, toL_some, ev_toL, getD_toL, put_toL, keep_toL, asc, fput_same, fput_ne, fbase_nil, fbase_cons, fkeep_nil, fkeep_cons, fzero, fnone, List.map_cons, List.map_nil, ev_lit, put_none, resVals, resVal, resOf, partV, fillA, putCells, fillEls, strBin, minV, optNat, appendEls, elsOf, sliceSlV, sliceStrV, List.replicate, List.getElem?_append_left, List.getElem?_append_right, List.set_append_left, List.set_append_right, List.getElem?_set_self, List.getElem?_set_ne, hq_get0, hq_get, hq_get2, hq_get3, hp_get0, hp_get, hp_get2, hp_get3, hp_set0, hp_set, hp_set2, hp_set3, wr_0, wr_1, wr_2, wr_3, wr_4, wr_n1, f0, f1, f7, f8, f13, f14, f23, fu, fu1, fu2, d0, hil]
      exact hQ' _ (hQ _ _ A B L ca qa qb va vb lv l rfl rfl rfl rfl rfl rfl rfl w1 b (by omega) g2 (fun h => g3 (by omega)) t1 t2 t3 t4)
end Go.Proofs.Ytmbkklobijflkaa.Lk
