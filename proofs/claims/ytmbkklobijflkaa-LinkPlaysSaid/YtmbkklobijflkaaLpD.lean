/- Link: an end of a way in memory; a letter is sent. -/
import Derived.Test.YtmbkklobijflkaaLpC
set_option maxRecDepth 100000
set_option linter.unusedVariables false
set_option linter.unusedSimpArgs false
namespace Go.Proofs.Ytmbkklobijflkaa.Lp
open Go Go.Eng F Lk

/-! What is kept, by number. -/
def kents (l : List (Int × Lv)) : List (AV × AV) := l.map fun p => (.int .i64 p.1, .agg p.2.av)
def findK (n : Int) : List (Int × Lv) → Option (Nat × Lv)
  | [] => none
  | p :: l => if n = p.1 then some (0, p.2) else (findK n l).map fun r => (r.1 + 1, r.2)
theorem findA_k (n : Int) : ∀ l, findA .int (.int .i64 n) (kents l) = some ((findK n l).map fun p => (p.1, .agg p.2.av))
  | [] => rfl
  | p :: l => by
    have ih := findA_k n l
    simp only [kents, List.map_cons] at ih ⊢
    by_cases h : n = p.1
    · subst h
      simp [findA, eqLeaf, findK]
    · have : (n == p.1) = false := by simpa using h
      simp [findA, eqLeaf, findK, h, this, ih]
      cases findK n l <;> rfl
theorem findK_lt {n : Int} : ∀ {l : List (Int × Lv)} {i : Nat} {x : Lv}, findK n l = some (i, x) → i < l.length
  | [], i, x, h => by simp [findK] at h
  | p :: l, i, x, h => by
    unfold findK at h
    split at h
    · cases h; simp
    · cases h2 : findK n l with
      | none => rw [h2] at h; cases h
      | some r =>
        rw [h2] at h
        cases h
        have := findK_lt (l := l) (i := r.1) (x := r.2) h2
        simp; omega
theorem kents_erase (l : List (Int × Lv)) : ∀ i, (kents l).eraseIdx i = kents (l.eraseIdx i) := by
  induction l with
  | nil => intro i; rfl
  | cons p l ih =>
    intro i
    cases i with
    | zero => rfl
    | succ i => simp only [kents, List.map_cons, List.eraseIdx_cons_succ] at ih ⊢; rw [ih]
def lookK (z : AV) (k : AV) : Option Blk → Option AV
  | some (.map es) => match findA .int k es with
    | some r => some (.tuple [(r.map (·.2)).getD z, .bool r.isSome])
    | none => none
  | _ => none
theorem rP_lookup {h : H} {z : AV} {b : Nat} {k : AV} : evalR (.lookup .int z true) [.map b, k] h = lookK z k h[b]? := by
  cases hx : h[b]? with
  | none => simp [evalR, hx, lookK]
  | some x => cases x with
    | dead => simp [evalR, hx, lookK]
    | row _ _ _ _ => simp [evalR, hx, lookK]
    | map es =>
      simp only [evalR, hx, lookK]
      cases findA .int k es <;> rfl
theorem lookK_k {z : AV} {n : Int} {l : List (Int × Lv)} : lookK z (.int .i64 n) (some (.map (kents l))) = some (.tuple [((findK n l).map fun p => AV.agg p.2.av).getD z, .bool (findK n l).isSome]) := by
  simp only [lookK, findA_k]
  cases findK n l <;> rfl
def lenK : Option Blk → Option AV
  | some (.map es) => some (.int .i64 es.length)
  | _ => none
theorem rP_lenMap {h : H} {b : Nat} : evalR .lenMap [.map b] h = lenK h[b]? := by
  cases hx : h[b]? with
  | none => simp [evalR, hx, lenK]
  | some x => cases x with
    | dead => simp [evalR, hx, lenK]
    | row _ _ _ _ => simp [evalR, hx, lenK]
    | map es =>
      simp only [evalR, hx, lenK]
theorem lenK_k {l : List (Int × Lv)} : lenK (some (.map (kents l))) = some (.int .i64 l.length) := by simp [lenK, kents]
def updK (b : Nat) (k v : AV) (h : H) : Option Blk → Option (AV × H)
  | some (.map es) => match findA .int k es with
    | some (some (i, _)) => some (.tuple [], h.set b (.map (es.set i (k, v))))
    | some none => some (.tuple [], h.set b (.map (es ++ [(k, v)])))
    | none => none
  | _ => none
theorem hP_update {h : H} {b : Nat} {k v : AV} : evalHeap (.mapUpdate .int) [.map b, k, v] h = updK b k v h h[b]? := by
  cases hx : h[b]? with
  | none => simp [evalHeap, hx, updK]
  | some x => cases x with
    | dead => simp [evalHeap, hx, updK]
    | row _ _ _ _ => simp [evalHeap, hx, updK]
    | map es =>
      simp only [evalHeap, hx, updK]
      rcases findA .int k es with _ | _ | _ <;> rfl
theorem updK_k {h : H} {b : Nat} {n : Int} {v : AV} {l : List (Int × Lv)} (hn : findK n l = none) : updK b (.int .i64 n) v h (some (.map (kents l))) = some (.tuple [], h.set b (.map (kents l ++ [(.int .i64 n, v)]))) := by
  simp only [updK, findA_k, hn, Option.map]
def delK (b : Nat) (k : AV) (h : H) : Option Blk → Option (AV × H)
  | some (.map es) => match findA .int k es with
    | some (some (i, _)) => some (.tuple [], h.set b (.map (es.eraseIdx i)))
    | some none => some (.tuple [], h)
    | none => none
  | _ => none
theorem hP_delete {h : H} {b : Nat} {k : AV} : evalHeap (.delete .int) [.map b, k] h = delK b k h h[b]? := by
  cases hx : h[b]? with
  | none => simp [evalHeap, hx, delK]
  | some x => cases x with
    | dead => simp [evalHeap, hx, delK]
    | row _ _ _ _ => simp [evalHeap, hx, delK]
    | map es =>
      simp only [evalHeap, hx, delK]
      rcases findA .int k es with _ | _ | _ <;> rfl
theorem delK_k {h : H} {b : Nat} {n : Int} {l : List (Int × Lv)} {i : Nat} {x : Lv} (hn : findK n l = some (i, x)) : delK b (.int .i64 n) h (some (.map (kents l))) = some (.tuple [], h.set b (.map (kents (l.eraseIdx i)))) := by
  simp only [delK, findA_k, hn, Option.map, kents_erase]

structure Ls where
  me : Int
  peer : Int
  now : Int
  out : Int
  waits : List Sn
  came : Int
  kept : List (Int × Lv)
structure LinkAt (k : H) (g m : Nat) (v : AV) (s : Ls) : Prop where
  gd : k[g]? = some (.row 7 [[.int .i64 s.me, .int .i64 s.peer, .int .i64 s.now, .int .i64 s.out, v, .int .i64 s.came, .map m]] true true)
  ow : Own k 23 v (sns s.waits)
  mp : k[m]? = some (.map (kents s.kept))
  gm : g ≠ m
  gv : g ∉ foot v
  mv : m ∉ foot v
theorem LinkAt.keep {k k' : H} {g m : Nat} {v : AV} {s : Ls} (a : LinkAt k g m v s) {G : List Nat} (hc : Chg k k' G) (h1 : g ∉ G) (h2 : m ∉ G) (h3 : ∀ c ∈ foot v, c ∉ G) : LinkAt k' g m v s :=
  ⟨hc.2 g _ h1 a.gd, a.ow.keep hc h3, hc.2 m _ h2 a.mp, a.gm, a.gv, a.mv⟩
theorem new_call (me peer : Int) (h : H) : call Lp.fs3 Lp.ex3 11 [.int .i64 me, .int .i64 peer] h = some (.ptr (h.length + 1) 0 0, h ++ [.map [], .row 7 [[.int .i64 me, .int .i64 peer, .int .i64 0, .int .i64 0, .nilslice, .int .i64 0, .map h.length]] true true]) := by
  rw [call_eq Lp.fs3 Lp.ex3 (f := 11) (sf := sf11) rfl]
  simp [sf11, yld_some, exec_reg, exec_dreg, exec_seq, exec_cond, exec_block, exec_scope, exec_exit, exec_ret, exec_skip, exec_loop, ops_nil, ops_cons, ops_cons_gd, stages_nil, stages_cons_n, stages_cons_h, recheck, wantsOp, AV.same, sames, evalOp_p, evalOp_r, evalOp_a, evalOp_call, evalOp_callV, evalOp_store, evalOp_append, evalOp_clear, evalOp_mapUpdate, evalOp_delete, pP_move, pP_pick, pP_build, pP_nil_ptr, pP_nil_func, pP_bin, pP_eq, pP_neg, pP_inv, pP_not, pP_convInt, pP_convStr, pP_fieldAddr, pP_field, pP_indexAddr, pP_indexStr, pP_sliceStr, pP_sliceSl, pP_lenStr, pP_lenNil, pP_lenSl, pP_min, pP_max, pP_extract, pP_mkfn, bV_add, bV_sub, bV_mul, bV_quo, bV_rem, bV_and, bV_or, bV_xor, bV_andNot, bV_eql, bV_neq, bV_lss, bV_leq, bV_gtr, bV_geq, bV_shl, bV_shr, bV_str, eV_bool, eV_nn, eV_np, eV_pn, eV_snn, eV_sns, eV_ssn, eV_mnn, eV_mnm, eV_mmn, eV_fnn, eV_fnf, eV_ffn, eV_agg, rP_load, rP_lenNil, rP_str0, rdEl_K, rdK_row, aP_alloc, aP_box, aP_buildSlice, aP_makeSlice, aP_makeMap, aP_toBytes, hP_store, storeK_some, st_K, stK_row, stE_some, cells_agg, cells_bool, scalar_bool, cells_int, scalar_int, cells_str, scalar_str, cells_nilptr, scalar_nilptr, cells_ptr, scalar_ptr, cells_nilslice, scalar_nilslice, cells_slice, scalar_slice, cells_nilmap, scalar_nilmap, cells_map, scalar_map, cells_nilfunc, scalar_nilfunc, cells_func, scalar_func, eqCells, eqLeaf, run_toL, toL_some, ev_toL, getD_toL, put_toL, keep_toL, asc, fput_same, fput_ne, fbase_nil, fbase_cons, fkeep_nil, fkeep_cons, fzero, fnone, List.map_cons, List.map_nil, ev_lit, put_none, resVals, resVal, resOf, partV, fillA, putCells, fillEls, strBin, minV, optNat, appendEls, elsOf, sliceSlV, sliceStrV, List.replicate, List.getElem?_append_left, List.getElem?_append_right, List.set_append_left, List.set_append_right, List.getElem?_set_self, List.getElem?_set_ne, hq_get0, hq_get, hq_get2, hq_get3, hp_get0, hp_get, hp_get2, hp_get3, hp_set0, hp_set, hp_set2, hp_set3, wr_0, wr_1, wr_2, wr_3, wr_4, wr_n1]
def Ls.fresh (me peer : Int) : Ls := ⟨me, peer, 0, 0, [], 0, []⟩
theorem new_at (me peer : Int) (h : H) : LinkAt (h ++ [.map [], .row 7 [[.int .i64 me, .int .i64 peer, .int .i64 0, .int .i64 0, .nilslice, .int .i64 0, .map h.length]] true true]) (h.length + 1) h.length .nilslice (Ls.fresh me peer) :=
  ⟨by simp [Ls.fresh], .inl ⟨rfl, rfl⟩, by simp [Ls.fresh, kents], by omega, by simp [foot], by simp [foot]⟩
section
variable {k : H} {g m : Nat} {v : AV} {s : Ls}
theorem came_call (a : LinkAt k g m v s) : call Lp.fs3 Lp.ex3 13 [.ptr g 0 0] k = some (.int .i64 s.came, k) := by
  rw [call_eq Lp.fs3 Lp.ex3 (f := 13) (sf := sf13) rfl]
  have hg := a.gd
  simp [sf13, yld_some, exec_reg, exec_dreg, exec_seq, exec_cond, exec_block, exec_scope, exec_exit, exec_ret, exec_skip, exec_loop, ops_nil, ops_cons, ops_cons_gd, stages_nil, stages_cons_n, stages_cons_h, recheck, wantsOp, AV.same, sames, evalOp_p, evalOp_r, evalOp_a, evalOp_call, evalOp_callV, evalOp_store, evalOp_append, evalOp_clear, evalOp_mapUpdate, evalOp_delete, pP_move, pP_pick, pP_build, pP_nil_ptr, pP_nil_func, pP_bin, pP_eq, pP_neg, pP_inv, pP_not, pP_convInt, pP_convStr, pP_fieldAddr, pP_field, pP_indexAddr, pP_indexStr, pP_sliceStr, pP_sliceSl, pP_lenStr, pP_lenNil, pP_lenSl, pP_min, pP_max, pP_extract, pP_mkfn, bV_add, bV_sub, bV_mul, bV_quo, bV_rem, bV_and, bV_or, bV_xor, bV_andNot, bV_eql, bV_neq, bV_lss, bV_leq, bV_gtr, bV_geq, bV_shl, bV_shr, bV_str, eV_bool, eV_nn, eV_np, eV_pn, eV_snn, eV_sns, eV_ssn, eV_mnn, eV_mnm, eV_mmn, eV_fnn, eV_fnf, eV_ffn, eV_agg, rP_load, rP_lenNil, rP_str0, rdEl_K, rdK_row, aP_alloc, aP_box, aP_buildSlice, aP_makeSlice, aP_makeMap, aP_toBytes, hP_store, storeK_some, st_K, stK_row, stE_some, cells_agg, cells_bool, scalar_bool, cells_int, scalar_int, cells_str, scalar_str, cells_nilptr, scalar_nilptr, cells_ptr, scalar_ptr, cells_nilslice, scalar_nilslice, cells_slice, scalar_slice, cells_nilmap, scalar_nilmap, cells_map, scalar_map, cells_nilfunc, scalar_nilfunc, cells_func, scalar_func, eqCells, eqLeaf, run_toL, toL_some, ev_toL, getD_toL, put_toL, keep_toL, asc, fput_same, fput_ne, fbase_nil, fbase_cons, fkeep_nil, fkeep_cons, fzero, fnone, List.map_cons, List.map_nil, ev_lit, put_none, resVals, resVal, resOf, partV, fillA, putCells, fillEls, strBin, minV, optNat, appendEls, elsOf, sliceSlV, sliceStrV, List.replicate, List.getElem?_append_left, List.getElem?_append_right, List.set_append_left, List.set_append_right, List.getElem?_set_self, List.getElem?_set_ne, hq_get0, hq_get, hq_get2, hq_get3, hp_get0, hp_get, hp_get2, hp_get3, hp_set0, hp_set, hp_set2, hp_set3, wr_0, wr_1, wr_2, wr_3, wr_4, wr_n1, hg, get_app hg, set_app hg, get_set_same hg, get_set_app hg, set_set_app hg, len_beq hg, beq_len hg]
theorem len_v (a : LinkAt k g m v s) : evalP .lenSl [v] = some (.int .i64 s.waits.length) := by
  rcases a.ow with ⟨rfl, h⟩ | ⟨b, c, els, rfl, _⟩
  · have : s.waits = [] := by simpa [sns] using h
    rw [this]; rfl
  · simp [pP_lenSl, sns]
theorem waits_call (a : LinkAt k g m v s) : call Lp.fs3 Lp.ex3 16 [.ptr g 0 0] k = some (.int .i64 s.waits.length, k) := by
  rw [call_eq Lp.fs3 Lp.ex3 (f := 16) (sf := sf16) rfl]
  have hg := a.gd
  simp [sf16, yld_some, exec_reg, exec_dreg, exec_seq, exec_cond, exec_block, exec_scope, exec_exit, exec_ret, exec_skip, exec_loop, ops_nil, ops_cons, ops_cons_gd, stages_nil, stages_cons_n, stages_cons_h, recheck, wantsOp, AV.same, sames, evalOp_p, evalOp_r, evalOp_a, evalOp_call, evalOp_callV, evalOp_store, evalOp_append, evalOp_clear, evalOp_mapUpdate, evalOp_delete, pP_move, pP_pick, pP_build, pP_nil_ptr, pP_nil_func, pP_bin, pP_eq, pP_neg, pP_inv, pP_not, pP_convInt, pP_convStr, pP_fieldAddr, pP_field, pP_indexAddr, pP_indexStr, pP_sliceStr, pP_sliceSl, pP_lenStr, pP_lenNil, pP_lenSl, pP_min, pP_max, pP_extract, pP_mkfn, bV_add, bV_sub, bV_mul, bV_quo, bV_rem, bV_and, bV_or, bV_xor, bV_andNot, bV_eql, bV_neq, bV_lss, bV_leq, bV_gtr, bV_geq, bV_shl, bV_shr, bV_str, eV_bool, eV_nn, eV_np, eV_pn, eV_snn, eV_sns, eV_ssn, eV_mnn, eV_mnm, eV_mmn, eV_fnn, eV_fnf, eV_ffn, eV_agg, rP_load, rP_lenNil, rP_str0, rdEl_K, rdK_row, aP_alloc, aP_box, aP_buildSlice, aP_makeSlice, aP_makeMap, aP_toBytes, hP_store, storeK_some, st_K, stK_row, stE_some, cells_agg, cells_bool, scalar_bool, cells_int, scalar_int, cells_str, scalar_str, cells_nilptr, scalar_nilptr, cells_ptr, scalar_ptr, cells_nilslice, scalar_nilslice, cells_slice, scalar_slice, cells_nilmap, scalar_nilmap, cells_map, scalar_map, cells_nilfunc, scalar_nilfunc, cells_func, scalar_func, eqCells, eqLeaf, run_toL, toL_some, ev_toL, getD_toL, put_toL, keep_toL, asc, fput_same, fput_ne, fbase_nil, fbase_cons, fkeep_nil, fkeep_cons, fzero, fnone, List.map_cons, List.map_nil, ev_lit, put_none, resVals, resVal, resOf, partV, fillA, putCells, fillEls, strBin, minV, optNat, appendEls, elsOf, sliceSlV, sliceStrV, List.replicate, List.getElem?_append_left, List.getElem?_append_right, List.set_append_left, List.set_append_right, List.getElem?_set_self, List.getElem?_set_ne, hq_get0, hq_get, hq_get2, hq_get3, hp_get0, hp_get, hp_get2, hp_get3, hp_set0, hp_set, hp_set2, hp_set3, wr_0, wr_1, wr_2, wr_3, wr_4, wr_n1, hg, get_app hg, set_app hg, get_set_same hg, get_set_app hg, set_set_app hg, len_beq hg, beq_len hg, len_v a]
theorem rest_call (a : LinkAt k g m v s) : call Lp.fs3 Lp.ex3 14 [.ptr g 0 0] k = some (.bool (decide (s.waits.length = 0) && decide (s.kept.length = 0)), k) := by
  rw [call_eq Lp.fs3 Lp.ex3 (f := 14) (sf := sf14) rfl]
  have hg := a.gd
  have hm := a.mp
  have b1 : ((s.waits.length : Int) == 0) = decide (s.waits.length = 0) := by
    by_cases h : s.waits.length = 0
    · simp [h]
    · rw [beq_false (show (s.waits.length : Int) ≠ 0 by omega), dec_false h]
  have b2 : ((s.kept.length : Int) == 0) = decide (s.kept.length = 0) := by
    by_cases h : s.kept.length = 0
    · simp [h]
    · rw [beq_false (show (s.kept.length : Int) ≠ 0 by omega), dec_false h]
  generalize hb1 : decide (s.waits.length = 0) = p1 at b1 ⊢
  generalize hb2 : decide (s.kept.length = 0) = p2 at b2 ⊢
  cases p1 <;> cases p2 <;> simp [sf14, yld_some, exec_reg, exec_dreg, exec_seq, exec_cond, exec_block, exec_scope, exec_exit, exec_ret, exec_skip, exec_loop, ops_nil, ops_cons, ops_cons_gd, stages_nil, stages_cons_n, stages_cons_h, recheck, wantsOp, AV.same, sames, evalOp_p, evalOp_r, evalOp_a, evalOp_call, evalOp_callV, evalOp_store, evalOp_append, evalOp_clear, evalOp_mapUpdate, evalOp_delete, pP_move, pP_pick, pP_build, pP_nil_ptr, pP_nil_func, pP_bin, pP_eq, pP_neg, pP_inv, pP_not, pP_convInt, pP_convStr, pP_fieldAddr, pP_field, pP_indexAddr, pP_indexStr, pP_sliceStr, pP_sliceSl, pP_lenStr, pP_lenNil, pP_lenSl, pP_min, pP_max, pP_extract, pP_mkfn, bV_add, bV_sub, bV_mul, bV_quo, bV_rem, bV_and, bV_or, bV_xor, bV_andNot, bV_eql, bV_neq, bV_lss, bV_leq, bV_gtr, bV_geq, bV_shl, bV_shr, bV_str, eV_bool, eV_nn, eV_np, eV_pn, eV_snn, eV_sns, eV_ssn, eV_mnn, eV_mnm, eV_mmn, eV_fnn, eV_fnf, eV_ffn, eV_agg, rP_load, rP_lenNil, rP_str0, rdEl_K, rdK_row, aP_alloc, aP_box, aP_buildSlice, aP_makeSlice, aP_makeMap, aP_toBytes, hP_store, storeK_some, st_K, stK_row, stE_some, cells_agg, cells_bool, scalar_bool, cells_int, scalar_int, cells_str, scalar_str, cells_nilptr, scalar_nilptr, cells_ptr, scalar_ptr, cells_nilslice, scalar_nilslice, cells_slice, scalar_slice, cells_nilmap, scalar_nilmap, cells_map, scalar_map, cells_nilfunc, scalar_nilfunc, cells_func, scalar_func, eqCells, eqLeaf, run_toL, toL_some, ev_toL, getD_toL, put_toL, keep_toL, asc, fput_same, fput_ne, fbase_nil, fbase_cons, fkeep_nil, fkeep_cons, fzero, fnone, List.map_cons, List.map_nil, ev_lit, put_none, resVals, resVal, resOf, partV, fillA, putCells, fillEls, strBin, minV, optNat, appendEls, elsOf, sliceSlV, sliceStrV, List.replicate, List.getElem?_append_left, List.getElem?_append_right, List.set_append_left, List.set_append_right, List.getElem?_set_self, List.getElem?_set_ne, hq_get0, hq_get, hq_get2, hq_get3, hp_get0, hp_get, hp_get2, hp_get3, hp_set0, hp_set, hp_set2, hp_set3, wr_0, wr_1, wr_2, wr_3, wr_4, wr_n1, hg, get_app hg, set_app hg, get_set_same hg, get_set_app hg, set_set_app hg, len_beq hg, beq_len hg, hm, get_app hm, set_app hm, get_set_same hm, get_set_app hm, set_set_app hm, len_beq hm, beq_len hm, len_v a, b1, b2, rP_lenMap, lenK_k]
def Ls.send (s : Ls) (x : Lt) : Ls := { s with out := IntKind.i64.wrap (s.out + 1), waits := s.waits ++ [⟨IntKind.i64.wrap (s.out + 1), x, s.now⟩] }
set_option maxHeartbeats 4000000 in
theorem send_call (a : LinkAt k g m v s) (hlen : s.waits.length < 4294967295) (x : Lt) :
    Yld (call Lp.fs3 Lp.ex3 15 [.ptr g 0 0, .agg x.av] k) fun r => r.1 = .agg (Pk.av ⟨s.me, s.peer, IntKind.i64.wrap (s.out + 1), s.came, x⟩) ∧ ∃ v', LinkAt r.2 g m v' (s.send x) ∧ Chg k r.2 (g :: foot v) ∧ ∀ c ∈ foot v', k.length ≤ c := by
  refine yld_shut fun Q hQ => ?_
  rw [call_eq Lp.fs3 Lp.ex3 (f := 15) (sf := sf15) rfl]
  obtain ⟨hg, hv, hm, hgm, hgv, hmv⟩ := a
  have hgl := (List.getElem?_eq_some_iff.1 hg).1
  have hml := (List.getElem?_eq_some_iff.1 hm).1
  have hla : (sns s.waits).length = s.waits.length := by simp [sns]
  rcases hv with ⟨rfl, hl⟩ | ⟨bl, cp, els, rfl, hb, hel, hle, hc⟩
  · have hw0 : s.waits = [] := List.map_eq_nil_iff.1 hl
    simp [sf15, appendV, evalHeap, yld_some, exec_reg, exec_dreg, exec_seq, exec_cond, exec_block, exec_scope, exec_exit, exec_ret, exec_skip, exec_loop, ops_nil, ops_cons, ops_cons_gd, stages_nil, stages_cons_n, stages_cons_h, recheck, wantsOp, AV.same, sames, evalOp_p, evalOp_r, evalOp_a, evalOp_call, evalOp_callV, evalOp_store, evalOp_append, evalOp_clear, evalOp_mapUpdate, evalOp_delete, pP_move, pP_pick, pP_build, pP_nil_ptr, pP_nil_func, pP_bin, pP_eq, pP_neg, pP_inv, pP_not, pP_convInt, pP_convStr, pP_fieldAddr, pP_field, pP_indexAddr, pP_indexStr, pP_sliceStr, pP_sliceSl, pP_lenStr, pP_lenNil, pP_lenSl, pP_min, pP_max, pP_extract, pP_mkfn, bV_add, bV_sub, bV_mul, bV_quo, bV_rem, bV_and, bV_or, bV_xor, bV_andNot, bV_eql, bV_neq, bV_lss, bV_leq, bV_gtr, bV_geq, bV_shl, bV_shr, bV_str, eV_bool, eV_nn, eV_np, eV_pn, eV_snn, eV_sns, eV_ssn, eV_mnn, eV_mnm, eV_mmn, eV_fnn, eV_fnf, eV_ffn, eV_agg, rP_load, rP_lenNil, rP_str0, rdEl_K, rdK_row, aP_alloc, aP_box, aP_buildSlice, aP_makeSlice, aP_makeMap, aP_toBytes, hP_store, storeK_some, st_K, stK_row, stE_some, cells_agg, cells_bool, scalar_bool, cells_int, scalar_int, cells_str, scalar_str, cells_nilptr, scalar_nilptr, cells_ptr, scalar_ptr, cells_nilslice, scalar_nilslice, cells_slice, scalar_slice, cells_nilmap, scalar_nilmap, cells_map, scalar_map, cells_nilfunc, scalar_nilfunc, cells_func, scalar_func, eqCells, eqLeaf, run_toL, toL_some, ev_toL, getD_toL, put_toL, keep_toL, asc, fput_same, fput_ne, fbase_nil, fbase_cons, fkeep_nil, fkeep_cons, fzero, fnone, List.map_cons, List.map_nil, ev_lit, put_none, resVals, resVal, resOf, partV, fillA, putCells, fillEls, strBin, minV, optNat, appendEls, elsOf, sliceSlV, sliceStrV, List.replicate, List.getElem?_append_left, List.getElem?_append_right, List.set_append_left, List.set_append_right, List.getElem?_set_self, List.getElem?_set_ne, hq_get0, hq_get, hq_get2, hq_get3, hp_get0, hp_get, hp_get2, hp_get3, hp_set0, hp_set, hp_set2, hp_set3, wr_0, wr_1, wr_2, wr_3, wr_4, wr_n1, hg, get_app hg, set_app hg, get_set_same hg, get_set_app hg, set_set_app hg, len_beq hg, beq_len hg, yld_some, j28, j62, sf28, sf62, e2_29, ex2, snOf, Lt.av, Sn.av, Pk.av]
    have hc : Chg k (k.set g (.row 7 [[.int .i64 s.me, .int .i64 s.peer, .int .i64 s.now, .int .i64 (IntKind.i64.wrap (s.out + 1)), .slice (k.length + 6) 23 0 1 1 false, .int .i64 s.came, .map m]] true true)) [g] := (Chg.refl _ _).set (.inl (by simp))
    refine hQ _ ⟨rfl, .slice (k.length + 6) 23 0 1 1 false, ⟨get_app (get_set_same hg), .inr ⟨k.length + 6, 1, [Sn.av ⟨IntKind.i64.wrap (s.out + 1), x, s.now⟩], ?_, ?_, ?_, ?_, ?_⟩, get_app (hc.2 m _ (by simpa using hgm.symm) hm), hgm, ?_, ?_⟩, (hc.mono (by simp)).more, ?_⟩
    · simp [Ls.send, hw0, sns]
    · simp [Sn.av]
    · simp [Ls.send, hw0, sns]
    · simp [Ls.send, hw0, sns]
    · simp [Ls.send, hw0, sns]
    · simp [foot]; omega
    · simp [foot]; omega
    · simp [foot]
  · rw [hla] at hg hel hle hc
    have hne : bl ≠ g := by rintro rfl; simp [foot] at hgv
    have hmb : m ≠ bl := by rintro rfl; simp [foot] at hmv
    have hn1 : s.waits.length + 1 ≤ 4294967296 := by omega
    have hlt : s.waits.length < 4294967296 := by omega
    have hb1 : (k.set g (.row 7 [[.int .i64 s.me, .int .i64 s.peer, .int .i64 s.now, .int .i64 (IntKind.i64.wrap (s.out + 1)), .slice bl 23 0 s.waits.length cp false, .int .i64 s.came, .map m]] true true))[bl]? = _ := (List.getElem?_set_ne (Ne.symm hne)).trans hb
    have hg1 : (k.set g (.row 7 [[.int .i64 s.me, .int .i64 s.peer, .int .i64 s.now, .int .i64 (IntKind.i64.wrap (s.out + 1)), .slice bl 23 0 s.waits.length cp false, .int .i64 s.came, .map m]] true true))[g]? = _ := get_set_same hg
    have hg2 : ((k.set g (.row 7 [[.int .i64 s.me, .int .i64 s.peer, .int .i64 s.now, .int .i64 (IntKind.i64.wrap (s.out + 1)), .slice bl 23 0 s.waits.length cp false, .int .i64 s.came, .map m]] true true)).set bl .dead)[g]? = _ := (List.getElem?_set_ne hne).trans hg1
    simp [sf15, appendV, evalHeap, yld_some, exec_reg, exec_dreg, exec_seq, exec_cond, exec_block, exec_scope, exec_exit, exec_ret, exec_skip, exec_loop, ops_nil, ops_cons, ops_cons_gd, stages_nil, stages_cons_n, stages_cons_h, recheck, wantsOp, AV.same, sames, evalOp_p, evalOp_r, evalOp_a, evalOp_call, evalOp_callV, evalOp_store, evalOp_append, evalOp_clear, evalOp_mapUpdate, evalOp_delete, pP_move, pP_pick, pP_build, pP_nil_ptr, pP_nil_func, pP_bin, pP_eq, pP_neg, pP_inv, pP_not, pP_convInt, pP_convStr, pP_fieldAddr, pP_field, pP_indexAddr, pP_indexStr, pP_sliceStr, pP_sliceSl, pP_lenStr, pP_lenNil, pP_lenSl, pP_min, pP_max, pP_extract, pP_mkfn, bV_add, bV_sub, bV_mul, bV_quo, bV_rem, bV_and, bV_or, bV_xor, bV_andNot, bV_eql, bV_neq, bV_lss, bV_leq, bV_gtr, bV_geq, bV_shl, bV_shr, bV_str, eV_bool, eV_nn, eV_np, eV_pn, eV_snn, eV_sns, eV_ssn, eV_mnn, eV_mnm, eV_mmn, eV_fnn, eV_fnf, eV_ffn, eV_agg, rP_load, rP_lenNil, rP_str0, rdEl_K, rdK_row, aP_alloc, aP_box, aP_buildSlice, aP_makeSlice, aP_makeMap, aP_toBytes, hP_store, storeK_some, st_K, stK_row, stE_some, cells_agg, cells_bool, scalar_bool, cells_int, scalar_int, cells_str, scalar_str, cells_nilptr, scalar_nilptr, cells_ptr, scalar_ptr, cells_nilslice, scalar_nilslice, cells_slice, scalar_slice, cells_nilmap, scalar_nilmap, cells_map, scalar_map, cells_nilfunc, scalar_nilfunc, cells_func, scalar_func, eqCells, eqLeaf, run_toL, toL_some, ev_toL, getD_toL, put_toL, keep_toL, asc, fput_same, fput_ne, fbase_nil, fbase_cons, fkeep_nil, fkeep_cons, fzero, fnone, List.map_cons, List.map_nil, ev_lit, put_none, resVals, resVal, resOf, partV, fillA, putCells, fillEls, strBin, minV, optNat, appendEls, elsOf, sliceSlV, sliceStrV, List.replicate, List.getElem?_append_left, List.getElem?_append_right, List.set_append_left, List.set_append_right, List.getElem?_set_self, List.getElem?_set_ne, hq_get0, hq_get, hq_get2, hq_get3, hp_get0, hp_get, hp_get2, hp_get3, hp_set0, hp_set, hp_set2, hp_set3, wr_0, wr_1, wr_2, wr_3, wr_4, wr_n1, hg, get_app hg, set_app hg, get_set_same hg, get_set_app hg, set_set_app hg, len_beq hg, beq_len hg, hb1, get_app hb1, set_app hb1, get_set_same hb1, get_set_app hb1, set_set_app hb1, len_beq hb1, beq_len hb1, hg2, get_app hg2, set_app hg2, get_set_same hg2, get_set_app hg2, set_set_app hg2, len_beq hg2, beq_len hg2, yld_some, j28, j62, sf28, sf62, e2_29, ex2, snOf, Lt.av, Sn.av, Pk.av, hle, hlt, hn1, hel]
    have hc2 : ∀ X Y, Chg k (((k.set g X).set bl .dead).set g Y) [g, bl] := fun X Y => (((Chg.refl _ _).set (.inl (by simp))).set (.inl (by simp))).set (.inl (by simp))
    refine hQ _ ⟨rfl, .slice (k.length + 6) 23 0 (s.waits.length + 1) (s.waits.length + 1) false, ⟨get_app (get_set_same hg2), .inr ⟨k.length + 6, s.waits.length + 1, sns s.waits ++ [Sn.av ⟨IntKind.i64.wrap (s.out + 1), x, s.now⟩], ?_, ?_, ?_, ?_, ?_⟩, get_app ((hc2 _ _).2 m _ (by simp [hgm.symm, hmb]) hm), hgm, ?_, ?_⟩, ((hc2 _ _).mono (by simp [foot])).more, ?_⟩
    · simp [Ls.send, sns]
    · simp [Sn.av]
    · have : sns (s.send x).waits = sns s.waits ++ [Sn.av ⟨IntKind.i64.wrap (s.out + 1), x, s.now⟩] := by simp [Ls.send, sns]
      rw [this]; exact List.take_of_length_le (Nat.le_refl _)
    · simp [Ls.send, sns]
    · simp [Ls.send, sns]
    · simp [foot]; omega
    · simp [foot]; omega
    · simp [foot]
end
end Go.Proofs.Ytmbkklobijflkaa.Lp
