/- Gate: GateLast over the engine. -/
import Derived.Test.YtkkjhpcjemcdjaaGateF
set_option maxRecDepth 100000
set_option linter.unusedVariables false
set_option linter.unusedSimpArgs false
namespace Go.Proofs.Ytkkjhpcjemcdjaa.Gt
open Go Go.Eng F

/-- A pointer after n ticks. -/
def aged (p : Pt) (n : Int) : List Pt := if p.old + n < 40 then [⟨p.a, p.b, p.node, p.old + n⟩] else []
theorem tick_app (l m : List Pt) : tick (l ++ m) = tick l ++ tick m := by simp [tick, young]
theorem tick_aged (p : Pt) {n : Int} (hn : 0 ≤ n) : tick (aged p n) = aged p (n + 1) := by
  unfold aged
  by_cases h : p.old + n < 40
  · by_cases h2 : p.old + (n + 1) < 40
    · have h3 : p.old + n + 1 < 40 := by omega
      simp [h, h2, h3, tick, young, Pt.older]; omega
    · have h3 : ¬ p.old + n + 1 < 40 := by omega
      simp [h, h2, h3, tick, young, Pt.older]
  · have h2 : ¬ p.old + (n + 1) < 40 := by omega
    simp [h, h2, tick, young]
theorem aged_old {p q : Pt} {n : Int} (hn : 0 ≤ n) (hp : 0 ≤ p.old) (h : q ∈ aged p n) : 0 ≤ q.old ∧ q.old < 40 := by
  unfold aged at h
  split at h
  · simp at h; subst h; simp; omega
  · cases h
theorem aged_len (p : Pt) (n : Int) : (aged p n).length ≤ 1 := by unfold aged; split <;> simp

/-- The gate at block n + 2, two boxes ahead of it. -/
def St (n : Nat) (p q : Blk) (k : H) (l : List Pt) : Prop :=
  ∃ v, GateAt k (n + 2) v false 0 0 l ∧ k[n]? = some p ∧ k[n + 1]? = some q ∧ (∀ c ∈ foot v, n + 3 ≤ c) ∧ n + 3 ≤ k.length
theorem st_point {n : Nat} {p q : Blk} {k : H} {l : List Pt} (hs : St n p q k l) (hlen : l.length < 4294967296) (c d w : Int) :
    Yld (call fs1 ex1 8 [.ptr (n + 2) 0 0, .agg [.int .u64 c, .int .u64 d], .int .i64 w] k) fun r => r.1 = .tuple [] ∧ St n p q r.2 (l ++ [⟨c, d, w, 0⟩]) := by
  obtain ⟨v, hg, hp, hq, hf, hn⟩ := hs
  refine (point_call hg hlen c d w).mono ?_
  rintro ⟨u, k'⟩ ⟨rfl, v', hg', hch, hft⟩
  have hno : ∀ m, m < n + 2 → m ∉ (n + 2) :: foot v := by
    intro m hm hmem
    rcases List.mem_cons.1 hmem with h1 | h1
    · omega
    · have := hf m h1; omega
  exact ⟨rfl, v', hg', hch.2 _ _ (hno _ (by omega)) hp, hch.2 _ _ (hno _ (by omega)) hq, fun c hc => Nat.le_trans hn (hft c hc), Nat.le_trans hn hch.1⟩
theorem st_tick {n : Nat} {p q : Blk} {k : H} {l : List Pt} (hs : St n p q k l) (hlen : l.length < 4294967296) (hold : ∀ p ∈ l, 0 ≤ p.old ∧ p.old < 40) :
    Yld (call fs1 ex1 9 [.ptr (n + 2) 0 0] k) fun r => r.1 = .tuple [] ∧ St n p q r.2 (tick l) := by
  obtain ⟨v, hg, hp, hq, hf, hn⟩ := hs
  refine (tick_call hg hlen hold).mono ?_
  rintro ⟨u, k'⟩ ⟨k2, v', hr, hg', hch, hft⟩
  cases hr
  have hno : ∀ m, m < n + 2 → m ∉ (n + 2) :: foot v := by
    intro m hm hmem
    rcases List.mem_cons.1 hmem with h1 | h1
    · omega
    · have := hf m h1; omega
  exact ⟨rfl, v', hg', hch.2 _ _ (hno _ (by omega)) hp, hch.2 _ _ (hno _ (by omega)) hq, fun c hc => hf c (hft c hc), Nat.le_trans hn hch.1⟩

theorem last_call (a b c d x : Int) (m n : Int) (h : H) : Yld (call fs1 ex1 3 [.agg [.int .u64 a, .int .u64 b], .agg [.int .u64 c, .int .u64 d], .int .u64 x, .int .i64 m, .int .i64 n] h) fun r => r.1 = .bool true := by
  refine yld_shut fun Q hQ => ?_
  rw [call_eq fs1 ex1 (f := 3) (sf := sf3) rfl]
  by_cases hb : m < 0 ∨ 50 < m ∨ n < 0 ∨ 50 < n
  · have : ∀ k, Q (.bool true, k) := fun k => hQ _ rfl
    rcases hb with hb | hb | hb | hb
    all_goals
      by_cases h1 : m < 0 <;> by_cases h2 : 50 < m <;> by_cases h3 : n < 0 <;> by_cases h4 : 50 < n <;> first | omega | simp [sf3, yld_some, exec_reg, exec_dreg, exec_seq, exec_cond, exec_block, exec_scope, exec_exit, exec_ret, exec_skip, exec_loop, ops_nil, ops_cons, ops_cons_gd, stages_nil, stages_cons_n, stages_cons_h, recheck, wantsOp, AV.same, sames, evalOp_p, evalOp_r, evalOp_a, evalOp_call, evalOp_callV, evalOp_store, evalOp_append, evalOp_clear, evalOp_mapUpdate, evalOp_delete, evalP, evalR, evalA, evalHeap, cells_agg, cells_bool, scalar_bool, cells_int, scalar_int, cells_str, scalar_str, cells_nilptr, scalar_nilptr, cells_ptr, scalar_ptr, cells_nilslice, scalar_nilslice, cells_slice, scalar_slice, cells_nilmap, scalar_nilmap, cells_map, scalar_map, cells_nilfunc, scalar_nilfunc, cells_func, scalar_func, eqAV, eqCells, eqLeaf, run_toL, toL_some, ev_toL, getD_toL, put_toL, keep_toL, asc, fput_same, fput_ne, fbase_nil, fbase_cons, fkeep_nil, fkeep_cons, fzero, fnone, List.map_cons, List.map_nil, ev_lit, put_none, resVals, resVal, resOf, rdEl, partV, fillA, putCells, fillEls, st, binV, intBin, bitsV, strBin, minV, optNat, appendEls, elsOf, sliceSlV, sliceStrV, List.replicate, List.getElem?_append_left, List.getElem?_append_right, List.set_append_left, List.set_append_right, List.getElem?_set_self, List.getElem?_set_ne, e1_7, exA, yld_some, h1, h2, h3, h4, this]
  · have h1 : ¬ m < 0 := by omega
    have h2 : ¬ 50 < m := by omega
    have h3 : ¬ n < 0 := by omega
    have h4 : ¬ 50 < n := by omega
    simp [sf3, yld_some, exec_reg, exec_dreg, exec_seq, exec_cond, exec_block, exec_scope, exec_exit, exec_ret, exec_skip, exec_loop, ops_nil, ops_cons, ops_cons_gd, stages_nil, stages_cons_n, stages_cons_h, recheck, wantsOp, AV.same, sames, evalOp_p, evalOp_r, evalOp_a, evalOp_call, evalOp_callV, evalOp_store, evalOp_append, evalOp_clear, evalOp_mapUpdate, evalOp_delete, evalP, evalR, evalA, evalHeap, cells_agg, cells_bool, scalar_bool, cells_int, scalar_int, cells_str, scalar_str, cells_nilptr, scalar_nilptr, cells_ptr, scalar_ptr, cells_nilslice, scalar_nilslice, cells_slice, scalar_slice, cells_nilmap, scalar_nilmap, cells_map, scalar_map, cells_nilfunc, scalar_nilfunc, cells_func, scalar_func, eqAV, eqCells, eqLeaf, run_toL, toL_some, ev_toL, getD_toL, put_toL, keep_toL, asc, fput_same, fput_ne, fbase_nil, fbase_cons, fkeep_nil, fkeep_cons, fzero, fnone, List.map_cons, List.map_nil, ev_lit, put_none, resVals, resVal, resOf, rdEl, partV, fillA, putCells, fillEls, st, binV, intBin, bitsV, strBin, minV, optNat, appendEls, elsOf, sliceSlV, sliceStrV, List.replicate, List.getElem?_append_left, List.getElem?_append_right, List.set_append_left, List.set_append_right, List.getElem?_set_self, List.getElem?_set_ne, e1_7, exA, h1, h2, h3, h4]
    repeat (first | apply yld_endFn | apply yld_seqK | apply yld_blockK | apply yld_regK | apply yld_opsK | apply yld_putK | apply yld_stgK | apply yld_chkK)
    refine (st_point (n := h.length) (p := .row 2 [[.int .u64 a, .int .u64 b]] true true) (q := .row 2 [[.int .u64 c, .int .u64 d]] true true) (l := []) ⟨.nilslice, ⟨by simp, .inl ⟨rfl, rfl⟩, by simp [foot]⟩, by simp, by simp, by simp [foot], by simp⟩ (by simp) a b 1).mono ?_
    rintro ⟨w, k⟩ ⟨rfl, hs⟩
    simp [yld_some, exec_reg, exec_dreg, exec_seq, exec_cond, exec_block, exec_scope, exec_exit, exec_ret, exec_skip, exec_loop, ops_nil, ops_cons, ops_cons_gd, stages_nil, stages_cons_n, stages_cons_h, recheck, wantsOp, AV.same, sames, evalOp_p, evalOp_r, evalOp_a, evalOp_call, evalOp_callV, evalOp_store, evalOp_append, evalOp_clear, evalOp_mapUpdate, evalOp_delete, evalP, evalR, evalA, evalHeap, cells_agg, cells_bool, scalar_bool, cells_int, scalar_int, cells_str, scalar_str, cells_nilptr, scalar_nilptr, cells_ptr, scalar_ptr, cells_nilslice, scalar_nilslice, cells_slice, scalar_slice, cells_nilmap, scalar_nilmap, cells_map, scalar_map, cells_nilfunc, scalar_nilfunc, cells_func, scalar_func, eqAV, eqCells, eqLeaf, run_toL, toL_some, ev_toL, getD_toL, put_toL, keep_toL, asc, fput_same, fput_ne, fbase_nil, fbase_cons, fkeep_nil, fkeep_cons, fzero, fnone, List.map_cons, List.map_nil, ev_lit, put_none, resVals, resVal, resOf, rdEl, partV, fillA, putCells, fillEls, st, binV, intBin, bitsV, strBin, minV, optNat, appendEls, elsOf, sliceSlV, sliceStrV, List.replicate, List.getElem?_append_left, List.getElem?_append_right, List.set_append_left, List.set_append_right, List.getElem?_set_self, List.getElem?_set_ne]
    repeat (first | apply yld_endFn | apply yld_seqK | apply yld_blockK | apply yld_regK | apply yld_opsK | apply yld_putK | apply yld_stgK | apply yld_chkK)
    refine yld_rounds (fun z e k => ∃ f i, e = toL 97 f ∧ z = m.toNat - i ∧ (i : Int) ≤ m ∧ f 2 = .int .u64 x ∧ f 3 = .int .i64 m ∧ f 4 = .int .i64 n ∧ f 5 = .ptr h.length 0 0 ∧ f 6 = .ptr (h.length + 1) 0 0 ∧ f 11 = .ptr (h.length + 2) 0 0 ∧ f 12 = .int .i64 (i : Nat) ∧
      St h.length (.row 2 [[.int .u64 a, .int .u64 b]] true true) (.row 2 [[.int .u64 c, .int .u64 d]] true true) k (aged ⟨a, b, 1, 0⟩ i)) (m.toNat - 0) ?_ ?_
    · exact ⟨_, 0, rfl, rfl, by omega, rfl, rfl, rfl, rfl, rfl, rfl, rfl, hs⟩
    · rintro J R hJ hR z e k ⟨f, i, rfl, rfl, hi, f2, f3, f4, f5, f6, f11, f12, hs⟩
      by_cases hil : (i : Int) < m
      · have hw : IntKind.i64.wrap ((i : Int) + 1) = ((i + 1 : Nat) : Int) := wrap_i64 (by omega) (by omega)
        obtain ⟨⟨w, k'⟩, e9, rfl, hs'⟩ := st_tick hs (by have := aged_len ⟨a, b, 1, 0⟩ (i : Int); omega) (fun p hp => aged_old (by omega) (by simp) hp)
        simp [yld_some, exec_reg, exec_dreg, exec_seq, exec_cond, exec_block, exec_scope, exec_exit, exec_ret, exec_skip, exec_loop, ops_nil, ops_cons, ops_cons_gd, stages_nil, stages_cons_n, stages_cons_h, recheck, wantsOp, AV.same, sames, evalOp_p, evalOp_r, evalOp_a, evalOp_call, evalOp_callV, evalOp_store, evalOp_append, evalOp_clear, evalOp_mapUpdate, evalOp_delete, evalP, evalR, evalA, evalHeap, cells_agg, cells_bool, scalar_bool, cells_int, scalar_int, cells_str, scalar_str, cells_nilptr, scalar_nilptr, cells_ptr, scalar_ptr, cells_nilslice, scalar_nilslice, cells_slice, scalar_slice, cells_nilmap, scalar_nilmap, cells_map, scalar_map, cells_nilfunc, scalar_nilfunc, cells_func, scalar_func, eqAV, eqCells, eqLeaf, run_toL, toL_some, ev_toL, getD_toL, put_toL, keep_toL, asc, fput_same, fput_ne, fbase_nil, fbase_cons, fkeep_nil, fkeep_cons, fzero, fnone, List.map_cons, List.map_nil, ev_lit, put_none, resVals, resVal, resOf, rdEl, partV, fillA, putCells, fillEls, st, binV, intBin, bitsV, strBin, minV, optNat, appendEls, elsOf, sliceSlV, sliceStrV, List.replicate, List.getElem?_append_left, List.getElem?_append_right, List.set_append_left, List.set_append_right, List.getElem?_set_self, List.getElem?_set_ne, f2, f3, f4, f5, f6, f11, f12, yld_some, hil, e9, hw]
        exact ⟨m.toNat - (i + 1), by omega, hJ _ _ _ ⟨_, i + 1, rfl, rfl, by omega, rfl, rfl, rfl, rfl, rfl, rfl, rfl, by rw [tick_aged _ (by omega)] at hs'; exact hs'⟩⟩
      · have : (i : Int) = m := by omega
        simp [yld_some, exec_reg, exec_dreg, exec_seq, exec_cond, exec_block, exec_scope, exec_exit, exec_ret, exec_skip, exec_loop, ops_nil, ops_cons, ops_cons_gd, stages_nil, stages_cons_n, stages_cons_h, recheck, wantsOp, AV.same, sames, evalOp_p, evalOp_r, evalOp_a, evalOp_call, evalOp_callV, evalOp_store, evalOp_append, evalOp_clear, evalOp_mapUpdate, evalOp_delete, evalP, evalR, evalA, evalHeap, cells_agg, cells_bool, scalar_bool, cells_int, scalar_int, cells_str, scalar_str, cells_nilptr, scalar_nilptr, cells_ptr, scalar_ptr, cells_nilslice, scalar_nilslice, cells_slice, scalar_slice, cells_nilmap, scalar_nilmap, cells_map, scalar_map, cells_nilfunc, scalar_nilfunc, cells_func, scalar_func, eqAV, eqCells, eqLeaf, run_toL, toL_some, ev_toL, getD_toL, put_toL, keep_toL, asc, fput_same, fput_ne, fbase_nil, fbase_cons, fkeep_nil, fkeep_cons, fzero, fnone, List.map_cons, List.map_nil, ev_lit, put_none, resVals, resVal, resOf, rdEl, partV, fillA, putCells, fillEls, st, binV, intBin, bitsV, strBin, minV, optNat, appendEls, elsOf, sliceSlV, sliceStrV, List.replicate, List.getElem?_append_left, List.getElem?_append_right, List.set_append_left, List.set_append_right, List.getElem?_set_self, List.getElem?_set_ne, f2, f3, f4, f5, f6, f11, f12, yld_some, hil]
        refine hR _ ?_
        have hk : k[h.length + 1]? = _ := hs.choose_spec.2.2.1
        simp [yld_some, exec_reg, exec_dreg, exec_seq, exec_cond, exec_block, exec_scope, exec_exit, exec_ret, exec_skip, exec_loop, ops_nil, ops_cons, ops_cons_gd, stages_nil, stages_cons_n, stages_cons_h, recheck, wantsOp, AV.same, sames, evalOp_p, evalOp_r, evalOp_a, evalOp_call, evalOp_callV, evalOp_store, evalOp_append, evalOp_clear, evalOp_mapUpdate, evalOp_delete, evalP, evalR, evalA, evalHeap, cells_agg, cells_bool, scalar_bool, cells_int, scalar_int, cells_str, scalar_str, cells_nilptr, scalar_nilptr, cells_ptr, scalar_ptr, cells_nilslice, scalar_nilslice, cells_slice, scalar_slice, cells_nilmap, scalar_nilmap, cells_map, scalar_map, cells_nilfunc, scalar_nilfunc, cells_func, scalar_func, eqAV, eqCells, eqLeaf, run_toL, toL_some, ev_toL, getD_toL, put_toL, keep_toL, asc, fput_same, fput_ne, fbase_nil, fbase_cons, fkeep_nil, fkeep_cons, fzero, fnone, List.map_cons, List.map_nil, ev_lit, put_none, resVals, resVal, resOf, rdEl, partV, fillA, putCells, fillEls, st, binV, intBin, bitsV, strBin, minV, optNat, appendEls, elsOf, sliceSlV, sliceStrV, List.replicate, List.getElem?_append_left, List.getElem?_append_right, List.set_append_left, List.set_append_right, List.getElem?_set_self, List.getElem?_set_ne, hk, get_app hk, set_app hk, get_set_same hk, get_set_app hk, set_set_app hk, len_beq hk, beq_len hk]
        repeat (first | apply yld_endFn | apply yld_seqK | apply yld_blockK | apply yld_regK | apply yld_opsK | apply yld_putK | apply yld_stgK | apply yld_chkK)
        refine (st_point hs (by have := aged_len ⟨a, b, 1, 0⟩ (i : Int); omega) c d 2).mono ?_
        rintro ⟨w, k⟩ ⟨rfl, hs⟩
        simp [yld_some, exec_reg, exec_dreg, exec_seq, exec_cond, exec_block, exec_scope, exec_exit, exec_ret, exec_skip, exec_loop, ops_nil, ops_cons, ops_cons_gd, stages_nil, stages_cons_n, stages_cons_h, recheck, wantsOp, AV.same, sames, evalOp_p, evalOp_r, evalOp_a, evalOp_call, evalOp_callV, evalOp_store, evalOp_append, evalOp_clear, evalOp_mapUpdate, evalOp_delete, evalP, evalR, evalA, evalHeap, cells_agg, cells_bool, scalar_bool, cells_int, scalar_int, cells_str, scalar_str, cells_nilptr, scalar_nilptr, cells_ptr, scalar_ptr, cells_nilslice, scalar_nilslice, cells_slice, scalar_slice, cells_nilmap, scalar_nilmap, cells_map, scalar_map, cells_nilfunc, scalar_nilfunc, cells_func, scalar_func, eqAV, eqCells, eqLeaf, run_toL, toL_some, ev_toL, getD_toL, put_toL, keep_toL, asc, fput_same, fput_ne, fbase_nil, fbase_cons, fkeep_nil, fkeep_cons, fzero, fnone, List.map_cons, List.map_nil, ev_lit, put_none, resVals, resVal, resOf, rdEl, partV, fillA, putCells, fillEls, st, binV, intBin, bitsV, strBin, minV, optNat, appendEls, elsOf, sliceSlV, sliceStrV, List.replicate, List.getElem?_append_left, List.getElem?_append_right, List.set_append_left, List.set_append_right, List.getElem?_set_self, List.getElem?_set_ne]
        repeat (first | apply yld_endFn | apply yld_seqK | apply yld_blockK | apply yld_regK | apply yld_opsK | apply yld_putK | apply yld_stgK | apply yld_chkK)
        refine yld_rounds (fun z e k => ∃ f i, e = toL 97 f ∧ z = n.toNat - i ∧ (i : Int) ≤ n ∧ f 2 = .int .u64 x ∧ f 3 = .int .i64 m ∧ f 4 = .int .i64 n ∧ f 5 = .ptr h.length 0 0 ∧ f 6 = .ptr (h.length + 1) 0 0 ∧ f 11 = .ptr (h.length + 2) 0 0 ∧ f 13 = .int .i64 (i : Nat) ∧
          St h.length (.row 2 [[.int .u64 a, .int .u64 b]] true true) (.row 2 [[.int .u64 c, .int .u64 d]] true true) k (aged ⟨a, b, 1, 0⟩ (m + i) ++ aged ⟨c, d, 2, 0⟩ i)) (n.toNat - 0) ?_ ?_
        · refine ⟨_, 0, rfl, rfl, by omega, rfl, rfl, rfl, rfl, rfl, rfl, rfl, ?_⟩
          have e1 : aged ⟨c, d, 2, 0⟩ ((0 : Nat) : Int) = [⟨c, d, 2, 0⟩] := by simp [aged]
          rw [e1, show m + ((0 : Nat) : Int) = i by omega]
          exact hs
        · clear hs hJ hR
          rintro J R hJ hR z e k ⟨f, i, rfl, rfl, hi, f2, f3, f4, f5, f6, f11, f13, hs⟩
          have hl2 : (aged ⟨a, b, 1, 0⟩ (m + i) ++ aged ⟨c, d, 2, 0⟩ (i : Int)).length < 4294967296 := by
            have h1 := aged_len ⟨a, b, 1, 0⟩ (m + i)
            have h2 := aged_len ⟨c, d, 2, 0⟩ (i : Int)
            simp only [List.length_append]; omega
          by_cases hil : (i : Int) < n
          · have hw : IntKind.i64.wrap ((i : Int) + 1) = ((i + 1 : Nat) : Int) := wrap_i64 (by omega) (by omega)
            obtain ⟨⟨w, k'⟩, e9, rfl, hs'⟩ := st_tick hs hl2 (fun p hp => by
              rcases List.mem_append.1 hp with hp | hp
              · exact aged_old (by omega) (by simp) hp
              · exact aged_old (by omega) (by simp) hp)
            simp [yld_some, exec_reg, exec_dreg, exec_seq, exec_cond, exec_block, exec_scope, exec_exit, exec_ret, exec_skip, exec_loop, ops_nil, ops_cons, ops_cons_gd, stages_nil, stages_cons_n, stages_cons_h, recheck, wantsOp, AV.same, sames, evalOp_p, evalOp_r, evalOp_a, evalOp_call, evalOp_callV, evalOp_store, evalOp_append, evalOp_clear, evalOp_mapUpdate, evalOp_delete, evalP, evalR, evalA, evalHeap, cells_agg, cells_bool, scalar_bool, cells_int, scalar_int, cells_str, scalar_str, cells_nilptr, scalar_nilptr, cells_ptr, scalar_ptr, cells_nilslice, scalar_nilslice, cells_slice, scalar_slice, cells_nilmap, scalar_nilmap, cells_map, scalar_map, cells_nilfunc, scalar_nilfunc, cells_func, scalar_func, eqAV, eqCells, eqLeaf, run_toL, toL_some, ev_toL, getD_toL, put_toL, keep_toL, asc, fput_same, fput_ne, fbase_nil, fbase_cons, fkeep_nil, fkeep_cons, fzero, fnone, List.map_cons, List.map_nil, ev_lit, put_none, resVals, resVal, resOf, rdEl, partV, fillA, putCells, fillEls, st, binV, intBin, bitsV, strBin, minV, optNat, appendEls, elsOf, sliceSlV, sliceStrV, List.replicate, List.getElem?_append_left, List.getElem?_append_right, List.set_append_left, List.set_append_right, List.getElem?_set_self, List.getElem?_set_ne, f2, f3, f4, f5, f6, f11, f13, hil, e9, hw]
            exact ⟨n.toNat - (i + 1), by omega, hJ _ _ _ ⟨_, i + 1, rfl, rfl, by omega, rfl, rfl, rfl, rfl, rfl, rfl, rfl, by
              rw [tick_app, tick_aged _ (by omega), tick_aged _ (by omega)] at hs'
              rw [show m + ((i + 1 : Nat) : Int) = m + i + 1 by omega]
              exact hs'⟩⟩
          · have hin : (i : Int) = n := by omega
            simp [yld_some, exec_reg, exec_dreg, exec_seq, exec_cond, exec_block, exec_scope, exec_exit, exec_ret, exec_skip, exec_loop, ops_nil, ops_cons, ops_cons_gd, stages_nil, stages_cons_n, stages_cons_h, recheck, wantsOp, AV.same, sames, evalOp_p, evalOp_r, evalOp_a, evalOp_call, evalOp_callV, evalOp_store, evalOp_append, evalOp_clear, evalOp_mapUpdate, evalOp_delete, evalP, evalR, evalA, evalHeap, cells_agg, cells_bool, scalar_bool, cells_int, scalar_int, cells_str, scalar_str, cells_nilptr, scalar_nilptr, cells_ptr, scalar_ptr, cells_nilslice, scalar_nilslice, cells_slice, scalar_slice, cells_nilmap, scalar_nilmap, cells_map, scalar_map, cells_nilfunc, scalar_nilfunc, cells_func, scalar_func, eqAV, eqCells, eqLeaf, run_toL, toL_some, ev_toL, getD_toL, put_toL, keep_toL, asc, fput_same, fput_ne, fbase_nil, fbase_cons, fkeep_nil, fkeep_cons, fzero, fnone, List.map_cons, List.map_nil, ev_lit, put_none, resVals, resVal, resOf, rdEl, partV, fillA, putCells, fillEls, st, binV, intBin, bitsV, strBin, minV, optNat, appendEls, elsOf, sliceSlV, sliceStrV, List.replicate, List.getElem?_append_left, List.getElem?_append_right, List.set_append_left, List.set_append_right, List.getElem?_set_self, List.getElem?_set_ne, f2, f3, f4, f5, f6, f11, f13, hil]
            refine hR _ ?_
            obtain ⟨v, hg, hp, hq, _, _⟩ := hs
            obtain ⟨⟨w, k'⟩, e10, rfl, k2, rfl⟩ := where_call hg hl2 x
            have hp' := @get_app k k2 _ _ hp
            have hq' := @get_app k k2 _ _ hq
            rw [hin] at e10
            have hwn : IntKind.i64.wrap (m + n) = m + n := wrap_i64 (by omega) (by omega)
            by_cases c1 : n < 40 <;> by_cases c2 : m + n < 40 <;> cases c3 : inA c d x <;> cases c4 : inA a b x <;>
              first
              | omega
              | (simp [aged, c1, c2, lastIn, c3, c4, ansOf] at e10
                 simp [yld_some, exec_reg, exec_dreg, exec_seq, exec_cond, exec_block, exec_scope, exec_exit, exec_ret, exec_skip, exec_loop, ops_nil, ops_cons, ops_cons_gd, stages_nil, stages_cons_n, stages_cons_h, recheck, wantsOp, AV.same, sames, evalOp_p, evalOp_r, evalOp_a, evalOp_call, evalOp_callV, evalOp_store, evalOp_append, evalOp_clear, evalOp_mapUpdate, evalOp_delete, evalP, evalR, evalA, evalHeap, cells_agg, cells_bool, scalar_bool, cells_int, scalar_int, cells_str, scalar_str, cells_nilptr, scalar_nilptr, cells_ptr, scalar_ptr, cells_nilslice, scalar_nilslice, cells_slice, scalar_slice, cells_nilmap, scalar_nilmap, cells_map, scalar_map, cells_nilfunc, scalar_nilfunc, cells_func, scalar_func, eqAV, eqCells, eqLeaf, run_toL, toL_some, ev_toL, getD_toL, put_toL, keep_toL, asc, fput_same, fput_ne, fbase_nil, fbase_cons, fkeep_nil, fkeep_cons, fzero, fnone, List.map_cons, List.map_nil, ev_lit, put_none, resVals, resVal, resOf, rdEl, partV, fillA, putCells, fillEls, st, binV, intBin, bitsV, strBin, minV, optNat, appendEls, elsOf, sliceSlV, sliceStrV, List.replicate, List.getElem?_append_left, List.getElem?_append_right, List.set_append_left, List.set_append_right, List.getElem?_set_self, List.getElem?_set_ne, e10, hp', hq', e1_11, exP, c1, c2, c3, c4, hwn]
                 exact hQ _ rfl)
end Go.Proofs.Ytkkjhpcjemcdjaa.Gt
namespace Go.Proofs.Ytkkjhpcjemcdjaa.Pure
open Go Go.Eng
theorem GateLast : LawOk Try.prog 3 F.ss3 := by
  refine ⟨Gt.fs1, Gt.ex1, Gt.fs1_ok, Gt.ex1_ok, fun vs h _ hv => ?_⟩
  simp only [F.ss3, HasVs, HasV, HasF, Has] at hv
  obtain ⟨_, _, rfl, ⟨_, rfl, _, _, rfl, ⟨a, rfl, _⟩, _, _, rfl, ⟨b, rfl, _⟩, rfl⟩, _, _, rfl, ⟨_, rfl, _, _, rfl, ⟨c, rfl, _⟩, _, _, rfl, ⟨d, rfl, _⟩, rfl⟩, _, _, rfl, ⟨x, hx, _⟩, _, _, rfl, ⟨m, hm, _⟩, _, _, rfl, ⟨n, hn, _⟩, rfl⟩ := hv
  cases hx; cases hm; cases hn
  exact Gt.last_call a b c d x m n h
end Go.Proofs.Ytkkjhpcjemcdjaa.Pure
