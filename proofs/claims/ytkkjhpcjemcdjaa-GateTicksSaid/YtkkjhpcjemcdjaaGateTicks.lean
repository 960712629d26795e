/- Gate: GateTicks over the engine. -/
import Derived.Test.YtkkjhpcjemcdjaaGateF
set_option maxRecDepth 100000
set_option linter.unusedVariables false
set_option linter.unusedSimpArgs false
namespace Go.Proofs.Ytkkjhpcjemcdjaa.Gt
open Go Go.Eng F

def pts (A : List Int) : List Pt := A.map fun o => ⟨0, 0, 1, o⟩
def ints (A : List Int) : List (List AV) := A.map fun o => [.int .i64 o]
def older (A : List Int) : List Int := (A.map (· + 1)).filter fun o => decide (o < 40)
theorem tick_pts (A : List Int) : tick (pts A) = pts (older A) := by
  induction A with
  | nil => rfl
  | cons o A ih =>
    simp only [tick, young, pts, older, List.map_cons, List.filter_cons, Pt.older] at ih ⊢
    by_cases h : o + 1 < 40 <;> simp [h] <;> simpa using ih
theorem older_mem {A : List Int} (hA : ∀ o ∈ A, 0 ≤ o ∧ o < 40) : ∀ o ∈ older A, 0 ≤ o ∧ o < 40 := by
  intro o ho
  simp only [older, List.mem_filter, List.mem_map, decide_eq_true_eq] at ho
  obtain ⟨⟨q, hq, rfl⟩, h2⟩ := ho
  have := hA q hq
  omega
theorem older_len (A : List Int) : (older A).length ≤ A.length := by
  unfold older
  exact Nat.le_trans (List.length_filter_le _ _) (by simp)
theorem older_snoc (A : List Int) (o : Int) : older (A ++ [o]) = older A ++ if o + 1 < 40 then [o + 1] else [] := by
  unfold older
  rw [List.map_append, List.filter_append]
  by_cases h : o + 1 < 40 <;> simp [h]

/-- The gate, the ages and the next ages, as they go on; what was there ahead of the call stands. -/
structure Tk (h : H) (g : Nat) (P : List Pt) (w : AV) (A : List Int) (u : AV) (B : List Int) (k : H) : Prop where
  gate : ∃ v, GateAt k g v false 0 0 P ∧ (∀ c ∈ foot v, h.length ≤ c ∧ c ∉ foot w ∧ c ∉ foot u)
  wo : Own k 1 w (ints A)
  uo : Own k 1 u (ints B)
  wf : ∀ c ∈ foot w, h.length ≤ c ∧ c ≠ g ∧ c ∉ foot u
  uf : ∀ c ∈ foot u, h.length ≤ c ∧ c ≠ g
  gl : h.length ≤ g
  kl : h.length ≤ k.length
  old : ∀ (c : Nat) (x : Blk), h[c]? = some x → k[c]? = some x

section
variable {h k : H} {g : Nat} {P : List Pt} {w u : AV} {A B : List Int}
theorem lt_of_get {h : H} {c : Nat} {x : Blk} (hx : h[c]? = some x) : c < h.length := (List.getElem?_eq_some_iff.1 hx).1

theorem tk_point (t : Tk h g P w A u B k) (hlen : P.length < 4294967296) :
    Yld (call fs1 ex1 8 [.ptr g 0 0, .agg [.int .u64 0, .int .u64 0], .int .i64 1] k) fun r => r.1 = .tuple [] ∧ Tk h g (P ++ [⟨0, 0, 1, 0⟩]) w A u B r.2 := by
  obtain ⟨v, hg, hv⟩ := t.gate
  refine (point_call hg hlen 0 0 1).mono ?_
  rintro ⟨x, k'⟩ ⟨rfl, v', hg', hch, hft⟩
  refine ⟨rfl, ⟨v', hg', fun c hc => ⟨Nat.le_trans t.kl (hft c hc), fun hw => ?_, fun hu => ?_⟩⟩, t.wo.keep hch fun c hc => ?_, t.uo.keep hch fun c hc => ?_, t.wf, t.uf, t.gl, Nat.le_trans t.kl hch.1, fun c x hx => hch.2 c x ?_ (t.old c x hx)⟩
  · have := t.wo.lt c hw; have := hft c hc; omega
  · have := t.uo.lt c hu; have := hft c hc; omega
  · intro hm
    rcases List.mem_cons.1 hm with h1 | h1
    · exact (t.wf c hc).2.1 h1
    · exact (hv c h1).2.1 hc
  · intro hm
    rcases List.mem_cons.1 hm with h1 | h1
    · exact (t.uf c hc).2 h1
    · exact (hv c h1).2.2 hc
  · intro hm
    have := lt_of_get hx
    rcases List.mem_cons.1 hm with h1 | h1
    · have := t.gl; omega
    · have := (hv c h1).1; omega
theorem tk_tick (t : Tk h g P w A u B k) (hlen : P.length < 4294967296) (hold : ∀ p ∈ P, 0 ≤ p.old ∧ p.old < 40) :
    Yld (call fs1 ex1 9 [.ptr g 0 0] k) fun r => r.1 = .tuple [] ∧ Tk h g (tick P) w A u B r.2 := by
  obtain ⟨v, hg, hv⟩ := t.gate
  refine (tick_call hg hlen hold).mono ?_
  rintro ⟨x, k'⟩ ⟨k2, v', hr, hg', hch, hft⟩
  cases hr
  refine ⟨rfl, ⟨v', hg', fun c hc => hv c (hft c hc)⟩, t.wo.keep hch fun c hc => ?_, t.uo.keep hch fun c hc => ?_, t.wf, t.uf, t.gl, Nat.le_trans t.kl hch.1, fun c x hx => hch.2 c x ?_ (t.old c x hx)⟩
  · intro hm
    rcases List.mem_cons.1 hm with h1 | h1
    · exact (t.wf c hc).2.1 h1
    · exact (hv c h1).2.1 hc
  · intro hm
    rcases List.mem_cons.1 hm with h1 | h1
    · exact (t.uf c hc).2 h1
    · exact (hv c h1).2.2 hc
  · intro hm
    have := lt_of_get hx
    rcases List.mem_cons.1 hm with h1 | h1
    · have := t.gl; omega
    · have := (hv c h1).1; omega
theorem tk_chg {k' : H} (t : Tk h g P w A u B k) {F : List Nat} (hch : Chg k k' F) (hF : ∀ c ∈ F, h.length ≤ c ∧ c ≠ g ∧ c ∉ foot w ∧ c ∉ foot u ∧ ∀ v, GateAt k g v false 0 0 P → c ∉ foot v) : Tk h g P w A u B k' := by
  obtain ⟨v, hg, hv⟩ := t.gate
  refine ⟨⟨v, ⟨hch.2 g _ (fun hm => (hF g hm).2.1 rfl) hg.1, hg.2.1.keep hch fun c hc hm => (hF c hm).2.2.2.2 v hg hc, hg.2.2⟩, hv⟩, t.wo.keep hch fun c hc hm => (hF c hm).2.2.1 hc, t.uo.keep hch fun c hc hm => (hF c hm).2.2.2.1 hc, t.wf, t.uf, t.gl, Nat.le_trans t.kl hch.1, fun c x hx => hch.2 c x (fun hm => ?_) (t.old c x hx)⟩
  have := lt_of_get hx
  have := (hF c hm).1
  omega
theorem tk_more (t : Tk h g P w A u B k) (z : H) : Tk h g P w A u B (k ++ z) := tk_chg t (Chg.app k z []) (by simp)

/-- One more of the next ages. -/
theorem tk_next (t : Tk h g P w A u B k) {o : Int} {b : Nat} {wr ap : Bool} (hb : k[b]? = some (.row 1 [[.int .i64 o]] wr ap)) (hlen : B.length < 4294967296) :
    ∃ u' k', appendV 1 false u (.slice b 1 0 1 1 true) k = some (u', k') ∧ Tk h g P w A u' (B ++ [o]) k' := by
  obtain ⟨u', k', e, ho, hch, hft⟩ := own_append t.uo (x := [.int .i64 o]) rfl (by simp [AV.scalar]) hb (c := 1) (y := true) (by simpa [ints] using hlen)
  obtain ⟨v, hg, hv⟩ := t.gate
  refine ⟨u', k', e, ⟨v, ⟨hch.2 g _ (fun hm => (t.uf g hm).2 rfl) hg.1, hg.2.1.keep hch fun c hc hm => (hv c hc).2.2 hm, hg.2.2⟩, fun c hc => ⟨(hv c hc).1, (hv c hc).2.1, fun hm => ?_⟩⟩, t.wo.keep hch fun c hc hm => (t.wf c hc).2.2 hm, by simpa [ints] using ho, fun c hc => ⟨(t.wf c hc).1, (t.wf c hc).2.1, fun hm => ?_⟩, fun c hc => ⟨Nat.le_trans t.kl (hft c hc), ?_⟩, t.gl, Nat.le_trans t.kl hch.1, fun c x hx => hch.2 c x (fun hm => ?_) (t.old c x hx)⟩
  · have := hg.2.1.lt c hc; have := hft c hm; omega
  · have := t.wo.lt c hc; have := hft c hm; omega
  · have := lt_of_get hg.1; have := hft c hc; omega
  · have := lt_of_get hx; have := (t.uf c hm).1; omega
/-- The next ages are the ages now, and the other way round. -/
theorem tk_swap (t : Tk h g P w A u B k) : Tk h g P u B w A k := by
  obtain ⟨v, hg, hv⟩ := t.gate
  refine ⟨⟨v, hg, fun c hc => ⟨(hv c hc).1, (hv c hc).2.2, (hv c hc).2.1⟩⟩, t.uo, t.wo, fun c hc => ⟨(t.uf c hc).1, (t.uf c hc).2, fun hm => (t.wf c hm).2.2 hc⟩, fun c hc => ⟨(t.wf c hc).1, (t.wf c hc).2.1⟩, t.gl, t.kl, t.old⟩
theorem tk_drop (t : Tk h g P w A u B k) : Tk h g P w A .nilslice [] k := by
  obtain ⟨v, hg, hv⟩ := t.gate
  exact ⟨⟨v, hg, fun c hc => ⟨(hv c hc).1, (hv c hc).2.1, by simp [foot]⟩⟩, t.wo, .inl ⟨rfl, rfl⟩, fun c hc => ⟨(t.wf c hc).1, (t.wf c hc).2.1, by simp [foot]⟩, by simp [foot], t.gl, t.kl, t.old⟩
end

theorem pts_len (A : List Int) : (pts A).length = A.length := by simp [pts]
theorem pts_old {A : List Int} (hA : ∀ o ∈ A, 0 ≤ o ∧ o < 40) : ∀ p ∈ pts A, 0 ≤ p.old ∧ p.old < 40 := by
  intro p hp
  simp only [pts, List.mem_map] at hp
  obtain ⟨o, ho, rfl⟩ := hp
  exact hA o ho

theorem ticks_call {h : H} {v : AV} {els : List (List AV)} (hv : SlOf h 1 v els) (hels : ∀ x ∈ els, ∃ n, x = [.int .i64 n]) (hmax : els.length ≤ maxLen) :
    Yld (call fs1 ex1 5 [v] h) fun r => r.1 = .bool true := by
  refine yld_shut fun Q hQ => ?_
  rw [call_eq fs1 ex1 (f := 5) (sf := sf5) rfl]
  have hlenv : evalP .lenSl [v] = some (.int .i64 els.length) := by
    rcases hv with ⟨rfl, rfl⟩ | ⟨b, c, rfl, _⟩ <;> rfl
  by_cases hl : 20 < els.length
  · have hl' : (20 : Int) < els.length := by omega
    have : ∀ k, Q (.bool true, k) := fun k => hQ _ rfl
    rcases hv with ⟨rfl, rfl⟩ | ⟨b, c, rfl, _⟩
    · simp at hl
    · simp [sf5, yld_some, exec_reg, exec_dreg, exec_seq, exec_cond, exec_block, exec_scope, exec_exit, exec_ret, exec_skip, exec_loop, ops_nil, ops_cons, ops_cons_gd, stages_nil, stages_cons_n, stages_cons_h, recheck, wantsOp, AV.same, sames, evalOp_p, evalOp_r, evalOp_a, evalOp_call, evalOp_callV, evalOp_store, evalOp_append, evalOp_clear, evalOp_mapUpdate, evalOp_delete, pP_move, pP_pick, pP_build, pP_nil_ptr, pP_nil_func, pP_bin, pP_eq, pP_neg, pP_inv, pP_not, pP_convInt, pP_convStr, pP_fieldAddr, pP_field, pP_indexAddr, pP_indexStr, pP_sliceStr, pP_sliceSl, pP_lenStr, pP_lenNil, pP_lenSl, pP_min, pP_max, pP_extract, pP_mkfn, bV_add, bV_sub, bV_mul, bV_quo, bV_rem, bV_and, bV_or, bV_xor, bV_andNot, bV_eql, bV_neq, bV_lss, bV_leq, bV_gtr, bV_geq, bV_shl, bV_shr, bV_str, eV_bool, eV_nn, eV_np, eV_pn, eV_snn, eV_sns, eV_ssn, eV_mnn, eV_mnm, eV_mmn, eV_fnn, eV_fnf, eV_ffn, eV_agg, rP_load, rP_lenNil, rP_str0, rdEl_K, rdK_row, aP_alloc, aP_box, aP_buildSlice, aP_makeSlice, aP_makeMap, aP_toBytes, hP_store, storeK_some, st_K, stK_row, stE_some, cells_agg, cells_bool, scalar_bool, cells_int, scalar_int, cells_str, scalar_str, cells_nilptr, scalar_nilptr, cells_ptr, scalar_ptr, cells_nilslice, scalar_nilslice, cells_slice, scalar_slice, cells_nilmap, scalar_nilmap, cells_map, scalar_map, cells_nilfunc, scalar_nilfunc, cells_func, scalar_func, eqCells, eqLeaf, run_toL, toL_some, ev_toL, getD_toL, put_toL, keep_toL, asc, fput_same, fput_ne, fbase_nil, fbase_cons, fkeep_nil, fkeep_cons, fzero, fnone, List.map_cons, List.map_nil, ev_lit, put_none, resVals, resVal, resOf, partV, fillA, putCells, fillEls, strBin, minV, optNat, appendEls, elsOf, sliceSlV, sliceStrV, List.replicate, List.getElem?_append_left, List.getElem?_append_right, List.set_append_left, List.set_append_right, List.getElem?_set_self, List.getElem?_set_ne, e1_7, exA, hl, hl', this]
  · have hl' : ¬ (20 : Int) < els.length := by omega
    have hstart : Tk h h.length (pts []) .nilslice [] .nilslice [] (h ++ [.row 4 [[.bool false, .int .u64 0, .int .u64 0, .nilslice]] true true]) :=
      ⟨⟨.nilslice, ⟨by simp, .inl ⟨rfl, rfl⟩, by simp [foot]⟩, by simp [foot]⟩, .inl ⟨rfl, rfl⟩, .inl ⟨rfl, rfl⟩, by simp [foot], by simp [foot], Nat.le_refl _, by simp, fun c x hx => get_app hx⟩
    have hls : (els.length : Int) ≤ 20 := by omega
    simp [sf5, yld_some, exec_reg, exec_dreg, exec_seq, exec_cond, exec_block, exec_scope, exec_exit, exec_ret, exec_skip, exec_loop, ops_nil, ops_cons, ops_cons_gd, stages_nil, stages_cons_n, stages_cons_h, recheck, wantsOp, AV.same, sames, evalOp_p, evalOp_r, evalOp_a, evalOp_call, evalOp_callV, evalOp_store, evalOp_append, evalOp_clear, evalOp_mapUpdate, evalOp_delete, pP_move, pP_pick, pP_build, pP_nil_ptr, pP_nil_func, pP_bin, pP_eq, pP_neg, pP_inv, pP_not, pP_convInt, pP_convStr, pP_fieldAddr, pP_field, pP_indexAddr, pP_indexStr, pP_sliceStr, pP_sliceSl, pP_lenStr, pP_lenNil, pP_lenSl, pP_min, pP_max, pP_extract, pP_mkfn, bV_add, bV_sub, bV_mul, bV_quo, bV_rem, bV_and, bV_or, bV_xor, bV_andNot, bV_eql, bV_neq, bV_lss, bV_leq, bV_gtr, bV_geq, bV_shl, bV_shr, bV_str, eV_bool, eV_nn, eV_np, eV_pn, eV_snn, eV_sns, eV_ssn, eV_mnn, eV_mnm, eV_mmn, eV_fnn, eV_fnf, eV_ffn, eV_agg, rP_load, rP_lenNil, rP_str0, rdEl_K, rdK_row, aP_alloc, aP_box, aP_buildSlice, aP_makeSlice, aP_makeMap, aP_toBytes, hP_store, storeK_some, st_K, stK_row, stE_some, cells_agg, cells_bool, scalar_bool, cells_int, scalar_int, cells_str, scalar_str, cells_nilptr, scalar_nilptr, cells_ptr, scalar_ptr, cells_nilslice, scalar_nilslice, cells_slice, scalar_slice, cells_nilmap, scalar_nilmap, cells_map, scalar_map, cells_nilfunc, scalar_nilfunc, cells_func, scalar_func, eqCells, eqLeaf, run_toL, toL_some, ev_toL, getD_toL, put_toL, keep_toL, asc, fput_same, fput_ne, fbase_nil, fbase_cons, fkeep_nil, fkeep_cons, fzero, fnone, List.map_cons, List.map_nil, ev_lit, put_none, resVals, resVal, resOf, partV, fillA, putCells, fillEls, strBin, minV, optNat, appendEls, elsOf, sliceSlV, sliceStrV, List.replicate, List.getElem?_append_left, List.getElem?_append_right, List.set_append_left, List.set_append_right, List.getElem?_set_self, List.getElem?_set_ne, hlenv, e1_7, exA, hl, hl']
    repeat (first | apply yld_endFn | apply yld_seqK | apply yld_blockK | apply yld_regK | apply yld_opsK | apply yld_putK | apply yld_stgK | apply yld_chkK)
    refine yld_rounds (fun z e k => ∃ f i w A, e = toL 73 f ∧ z = els.length - i ∧ i ≤ els.length ∧ f 3 = .ptr h.length 0 0 ∧ f 4 = w ∧ f 22 = v ∧ f 23 = .int .i64 els.length ∧ f 24 = .int .i64 (i : Nat) ∧
      Tk h h.length (pts A) w A .nilslice [] k ∧ A.length ≤ i ∧ ∀ o ∈ A, 0 ≤ o ∧ o < 40) (els.length - 0) ?_ ?_
    · exact ⟨_, 0, .nilslice, [], rfl, rfl, Nat.zero_le _, rfl, rfl, rfl, rfl, rfl, hstart, Nat.le_refl _, by simp⟩
    · rintro J R hJ hR z e k ⟨f, i, w, A, rfl, rfl, hi, f3, f4, f22, f23, f24, ht, hA, hAo⟩
      by_cases hil : i < els.length
      · obtain ⟨b, c, rfl, hc, hb⟩ : ∃ b c, v = .slice b 1 0 els.length c true ∧ els.length ≤ c ∧ h[b]? = some (.row 1 els false false) := by
          rcases hv with ⟨rfl, rfl⟩ | ⟨b, c, rfl, hc, hb⟩
          · simp at hil
          · exact ⟨b, c, rfl, hc, hb (by rintro rfl; simp at hil)⟩
        obtain ⟨x, hx⟩ := hels els[i] (List.getElem_mem hil)
        have hp : els[i]? = some [.int .i64 x] := by rw [List.getElem?_eq_getElem hil, hx]
        have hbk := ht.old b _ hb
        have hw : IntKind.i64.wrap ((i : Int) + 1) = ((i + 1 : Nat) : Int) := wrap_i64 (by omega) (by omega)
        obtain ⟨⟨_, k1⟩, e8, rfl, t1⟩ := tk_point ht (by rw [pts_len]; omega)
        have t2 := tk_more t1 [.row 1 [[.int .i64 0]] true true]
        obtain ⟨w1, k2, e9, t3⟩ := tk_next (tk_swap t2) (b := k1.length) (o := 0) (wr := true) (ap := true) (by simp) (by omega)
        have t4 := tk_swap t3
        simp [yld_some, exec_reg, exec_dreg, exec_seq, exec_cond, exec_block, exec_scope, exec_exit, exec_ret, exec_skip, exec_loop, ops_nil, ops_cons, ops_cons_gd, stages_nil, stages_cons_n, stages_cons_h, recheck, wantsOp, AV.same, sames, evalOp_p, evalOp_r, evalOp_a, evalOp_call, evalOp_callV, evalOp_store, evalOp_append, evalOp_clear, evalOp_mapUpdate, evalOp_delete, pP_move, pP_pick, pP_build, pP_nil_ptr, pP_nil_func, pP_bin, pP_eq, pP_neg, pP_inv, pP_not, pP_convInt, pP_convStr, pP_fieldAddr, pP_field, pP_indexAddr, pP_indexStr, pP_sliceStr, pP_sliceSl, pP_lenStr, pP_lenNil, pP_lenSl, pP_min, pP_max, pP_extract, pP_mkfn, bV_add, bV_sub, bV_mul, bV_quo, bV_rem, bV_and, bV_or, bV_xor, bV_andNot, bV_eql, bV_neq, bV_lss, bV_leq, bV_gtr, bV_geq, bV_shl, bV_shr, bV_str, eV_bool, eV_nn, eV_np, eV_pn, eV_snn, eV_sns, eV_ssn, eV_mnn, eV_mnm, eV_mmn, eV_fnn, eV_fnf, eV_ffn, eV_agg, rP_load, rP_lenNil, rP_str0, rdEl_K, rdK_row, aP_alloc, aP_box, aP_buildSlice, aP_makeSlice, aP_makeMap, aP_toBytes, hP_store, storeK_some, st_K, stK_row, stE_some, cells_agg, cells_bool, scalar_bool, cells_int, scalar_int, cells_str, scalar_str, cells_nilptr, scalar_nilptr, cells_ptr, scalar_ptr, cells_nilslice, scalar_nilslice, cells_slice, scalar_slice, cells_nilmap, scalar_nilmap, cells_map, scalar_map, cells_nilfunc, scalar_nilfunc, cells_func, scalar_func, eqCells, eqLeaf, run_toL, toL_some, ev_toL, getD_toL, put_toL, keep_toL, asc, fput_same, fput_ne, fbase_nil, fbase_cons, fkeep_nil, fkeep_cons, fzero, fnone, List.map_cons, List.map_nil, ev_lit, put_none, resVals, resVal, resOf, partV, fillA, putCells, fillEls, strBin, minV, optNat, appendEls, elsOf, sliceSlV, sliceStrV, List.replicate, List.getElem?_append_left, List.getElem?_append_right, List.set_append_left, List.set_append_right, List.getElem?_set_self, List.getElem?_set_ne, f3, f4, f22, f23, f24, hil, hbk, get_app hbk, set_app hbk, get_set_same hbk, get_set_app hbk, set_set_app hbk, len_beq hbk, beq_len hbk, hp, hx, hw, e8, e9]
        obtain ⟨y, hy0, hy15⟩ := and_small x 15 (by omega)
        have hy : bitsV .and .i64 x 15 = some (y : Int) := hy0
        have hA1 : (A ++ [(0 : Int)]).length ≤ i + 1 := by simp; omega
        have hA1o : ∀ o ∈ A ++ [(0 : Int)], 0 ≤ o ∧ o < 40 := by
          intro o ho
          rcases List.mem_append.1 ho with ho | ho
          · exact hAo o ho
          · simp at ho; subst ho; omega
        have hP1 : pts A ++ [⟨0, 0, 1, 0⟩] = pts (A ++ [(0 : Int)]) := by simp [pts]
        rw [hP1] at t4
        clear e8 e9 t1 t2 t3 ht hAo hA hP1
        generalize A ++ [(0 : Int)] = A1 at *
        repeat (first | apply yld_endFn | apply yld_seqK | apply yld_blockK | apply yld_regK | apply yld_opsK | apply yld_putK | apply yld_stgK | apply yld_chkK)
        refine yld_rounds (fun z e k => ∃ f j w A, e = toL 73 f ∧ z = y - j ∧ j ≤ y ∧ f 3 = .ptr h.length 0 0 ∧ f 4 = w ∧ f 6 = .int .i64 x ∧ f 7 = .int .i64 (j : Nat) ∧ f 22 = .slice b 1 0 els.length c true ∧ f 23 = .int .i64 els.length ∧ f 24 = .int .i64 (i : Nat) ∧
          Tk h h.length (pts A) w A .nilslice [] k ∧ A.length ≤ i + 1 ∧ ∀ o ∈ A, 0 ≤ o ∧ o < 40) (y - 0) ?_ ?_
        · exact ⟨_, 0, w1, A1, rfl, rfl, Nat.zero_le _, rfl, rfl, rfl, rfl, rfl, rfl, rfl, t4, hA1, hA1o⟩
        · clear t4 hA1 hA1o
          rintro J2 R2 hJ2 hR2 z e k ⟨f, j, w, A, rfl, rfl, hj, f3, f4, f6, f7, f22, f23, f24, ht, hA, hAo⟩
          by_cases hjl : j < y
          · have hwj : IntKind.i64.wrap ((j : Int) + 1) = ((j + 1 : Nat) : Int) := wrap_i64 (by omega) (by omega)
            obtain ⟨⟨_, k1⟩, e9, rfl, t1⟩ := tk_tick ht (by rw [pts_len]; omega) (pts_old hAo)
            rw [tick_pts] at t1
            have hlw : evalP .lenSl [w] = some (.int .i64 A.length) := by
              rcases t1.wo with ⟨rfl, h0⟩ | ⟨bl, c', els', rfl, _⟩
              · have : A = [] := by simpa [ints] using h0
                subst this; rfl
              · simp [pP_lenSl, ints]
            simp [yld_some, exec_reg, exec_dreg, exec_seq, exec_cond, exec_block, exec_scope, exec_exit, exec_ret, exec_skip, exec_loop, ops_nil, ops_cons, ops_cons_gd, stages_nil, stages_cons_n, stages_cons_h, recheck, wantsOp, AV.same, sames, evalOp_p, evalOp_r, evalOp_a, evalOp_call, evalOp_callV, evalOp_store, evalOp_append, evalOp_clear, evalOp_mapUpdate, evalOp_delete, pP_move, pP_pick, pP_build, pP_nil_ptr, pP_nil_func, pP_bin, pP_eq, pP_neg, pP_inv, pP_not, pP_convInt, pP_convStr, pP_fieldAddr, pP_field, pP_indexAddr, pP_indexStr, pP_sliceStr, pP_sliceSl, pP_lenStr, pP_lenNil, pP_lenSl, pP_min, pP_max, pP_extract, pP_mkfn, bV_add, bV_sub, bV_mul, bV_quo, bV_rem, bV_and, bV_or, bV_xor, bV_andNot, bV_eql, bV_neq, bV_lss, bV_leq, bV_gtr, bV_geq, bV_shl, bV_shr, bV_str, eV_bool, eV_nn, eV_np, eV_pn, eV_snn, eV_sns, eV_ssn, eV_mnn, eV_mnm, eV_mmn, eV_fnn, eV_fnf, eV_ffn, eV_agg, rP_load, rP_lenNil, rP_str0, rdEl_K, rdK_row, aP_alloc, aP_box, aP_buildSlice, aP_makeSlice, aP_makeMap, aP_toBytes, hP_store, storeK_some, st_K, stK_row, stE_some, cells_agg, cells_bool, scalar_bool, cells_int, scalar_int, cells_str, scalar_str, cells_nilptr, scalar_nilptr, cells_ptr, scalar_ptr, cells_nilslice, scalar_nilslice, cells_slice, scalar_slice, cells_nilmap, scalar_nilmap, cells_map, scalar_map, cells_nilfunc, scalar_nilfunc, cells_func, scalar_func, eqCells, eqLeaf, run_toL, toL_some, ev_toL, getD_toL, put_toL, keep_toL, asc, fput_same, fput_ne, fbase_nil, fbase_cons, fkeep_nil, fkeep_cons, fzero, fnone, List.map_cons, List.map_nil, ev_lit, put_none, resVals, resVal, resOf, partV, fillA, putCells, fillEls, strBin, minV, optNat, appendEls, elsOf, sliceSlV, sliceStrV, List.replicate, List.getElem?_append_left, List.getElem?_append_right, List.set_append_left, List.set_append_right, List.getElem?_set_self, List.getElem?_set_ne, f3, f4, f6, f7, f22, f23, f24, hy, hjl, e9, hlw]
            repeat (first | apply yld_endFn | apply yld_seqK | apply yld_blockK | apply yld_regK | apply yld_opsK | apply yld_putK | apply yld_stgK | apply yld_chkK)
            have hA0 : ∀ o ∈ A, 0 ≤ o ∧ o < 40 := hAo
            refine yld_rounds (fun z e k => ∃ f q u, e = toL 73 f ∧ z = A.length - q ∧ q ≤ A.length ∧ f 3 = .ptr h.length 0 0 ∧ f 6 = .int .i64 x ∧ f 7 = .int .i64 (j : Nat) ∧ f 8 = u ∧ f 22 = .slice b 1 0 els.length c true ∧ f 23 = .int .i64 els.length ∧ f 24 = .int .i64 (i : Nat) ∧
              f 42 = w ∧ f 43 = .int .i64 A.length ∧ f 44 = .int .i64 (q : Nat) ∧ Tk h h.length (pts (older A)) w A u (older (A.take q)) k) (A.length - 0) ?_ ?_
            · exact ⟨_, 0, .nilslice, rfl, rfl, Nat.zero_le _, rfl, rfl, rfl, rfl, rfl, rfl, rfl, rfl, rfl, rfl, by simpa [older] using t1⟩
            · clear e9 t1 ht
              rintro J3 R3 hJ3 hR3 z e k ⟨f, q, u, rfl, rfl, hq, f3, f6, f7, f8, f22, f23, f24, f42, f43, f44, ht⟩
              by_cases hql : q < A.length
              · have hwq : IntKind.i64.wrap ((q : Int) + 1) = ((q + 1 : Nat) : Int) := wrap_i64 (by omega) (by omega)
                have hoq := hA0 A[q] (List.getElem_mem hql)
                have hwo : IntKind.i64.wrap (A[q] + 1) = A[q] + 1 := wrap_i64 (by omega) (by omega)
                obtain ⟨bl, c', els', rfl, hbl, hel, hle, hcc⟩ : ∃ bl c' els', w = .slice bl 1 0 A.length c' false ∧ k[bl]? = some (.row 1 els' true true) ∧ els'.take A.length = ints A ∧ A.length ≤ els'.length ∧ A.length ≤ c' := by
                  have hli : (ints A).length = A.length := by simp [ints]
                  rcases ht.wo with ⟨rfl, h0⟩ | ⟨bl, c', els', rfl, h1, h2, h3, h4⟩
                  · have : A = [] := by simpa [ints] using h0
                    subst this; simp at hql
                  · rw [hli] at h2 h3 h4 ⊢
                    exact ⟨bl, c', els', rfl, h1, h2, h3, h4⟩
                have hpq : els'[q]? = some [.int .i64 A[q]] := by
                  rw [take_get hel (by simpa [ints] using hql)]; simp [ints, hql]
                have hq1 : older (A.take (q + 1)) = older (A.take q) ++ if A[q] + 1 < 40 then [A[q] + 1] else [] := by rw [take_succ_get hql, older_snoc]
                have hlo : (older (A.take q)).length < 4294967296 := by
                  have h1 := older_len (A.take q)
                  have h2 : (A.take q).length ≤ A.length := by simp; omega
                  omega
                by_cases h40 : A[q] + 1 < 40
                · have t2 := tk_more ht [.row 1 [[.int .i64 (A[q] + 1)]] true true]
                  obtain ⟨u', k2, e9, t3⟩ := tk_next t2 (b := k.length) (o := A[q] + 1) (wr := true) (ap := true) (by simp) hlo
                  simp [yld_some, exec_reg, exec_dreg, exec_seq, exec_cond, exec_block, exec_scope, exec_exit, exec_ret, exec_skip, exec_loop, ops_nil, ops_cons, ops_cons_gd, stages_nil, stages_cons_n, stages_cons_h, recheck, wantsOp, AV.same, sames, evalOp_p, evalOp_r, evalOp_a, evalOp_call, evalOp_callV, evalOp_store, evalOp_append, evalOp_clear, evalOp_mapUpdate, evalOp_delete, pP_move, pP_pick, pP_build, pP_nil_ptr, pP_nil_func, pP_bin, pP_eq, pP_neg, pP_inv, pP_not, pP_convInt, pP_convStr, pP_fieldAddr, pP_field, pP_indexAddr, pP_indexStr, pP_sliceStr, pP_sliceSl, pP_lenStr, pP_lenNil, pP_lenSl, pP_min, pP_max, pP_extract, pP_mkfn, bV_add, bV_sub, bV_mul, bV_quo, bV_rem, bV_and, bV_or, bV_xor, bV_andNot, bV_eql, bV_neq, bV_lss, bV_leq, bV_gtr, bV_geq, bV_shl, bV_shr, bV_str, eV_bool, eV_nn, eV_np, eV_pn, eV_snn, eV_sns, eV_ssn, eV_mnn, eV_mnm, eV_mmn, eV_fnn, eV_fnf, eV_ffn, eV_agg, rP_load, rP_lenNil, rP_str0, rdEl_K, rdK_row, aP_alloc, aP_box, aP_buildSlice, aP_makeSlice, aP_makeMap, aP_toBytes, hP_store, storeK_some, st_K, stK_row, stE_some, cells_agg, cells_bool, scalar_bool, cells_int, scalar_int, cells_str, scalar_str, cells_nilptr, scalar_nilptr, cells_ptr, scalar_ptr, cells_nilslice, scalar_nilslice, cells_slice, scalar_slice, cells_nilmap, scalar_nilmap, cells_map, scalar_map, cells_nilfunc, scalar_nilfunc, cells_func, scalar_func, eqCells, eqLeaf, run_toL, toL_some, ev_toL, getD_toL, put_toL, keep_toL, asc, fput_same, fput_ne, fbase_nil, fbase_cons, fkeep_nil, fkeep_cons, fzero, fnone, List.map_cons, List.map_nil, ev_lit, put_none, resVals, resVal, resOf, partV, fillA, putCells, fillEls, strBin, minV, optNat, appendEls, elsOf, sliceSlV, sliceStrV, List.replicate, List.getElem?_append_left, List.getElem?_append_right, List.set_append_left, List.set_append_right, List.getElem?_set_self, List.getElem?_set_ne, f3, f6, f7, f8, f22, f23, f24, f42, f43, f44, hql, hbl, get_app hbl, set_app hbl, get_set_same hbl, get_set_app hbl, set_set_app hbl, len_beq hbl, beq_len hbl, hpq, hwq, hwo, h40, e9]
                  refine ⟨A.length - (q + 1), by omega, hJ3 _ _ _ ⟨_, q + 1, u', rfl, rfl, hql, rfl, rfl, rfl, rfl, rfl, rfl, rfl, rfl, rfl, rfl, ?_⟩⟩
                  rw [hq1, if_pos h40]; exact t3
                · simp [yld_some, exec_reg, exec_dreg, exec_seq, exec_cond, exec_block, exec_scope, exec_exit, exec_ret, exec_skip, exec_loop, ops_nil, ops_cons, ops_cons_gd, stages_nil, stages_cons_n, stages_cons_h, recheck, wantsOp, AV.same, sames, evalOp_p, evalOp_r, evalOp_a, evalOp_call, evalOp_callV, evalOp_store, evalOp_append, evalOp_clear, evalOp_mapUpdate, evalOp_delete, pP_move, pP_pick, pP_build, pP_nil_ptr, pP_nil_func, pP_bin, pP_eq, pP_neg, pP_inv, pP_not, pP_convInt, pP_convStr, pP_fieldAddr, pP_field, pP_indexAddr, pP_indexStr, pP_sliceStr, pP_sliceSl, pP_lenStr, pP_lenNil, pP_lenSl, pP_min, pP_max, pP_extract, pP_mkfn, bV_add, bV_sub, bV_mul, bV_quo, bV_rem, bV_and, bV_or, bV_xor, bV_andNot, bV_eql, bV_neq, bV_lss, bV_leq, bV_gtr, bV_geq, bV_shl, bV_shr, bV_str, eV_bool, eV_nn, eV_np, eV_pn, eV_snn, eV_sns, eV_ssn, eV_mnn, eV_mnm, eV_mmn, eV_fnn, eV_fnf, eV_ffn, eV_agg, rP_load, rP_lenNil, rP_str0, rdEl_K, rdK_row, aP_alloc, aP_box, aP_buildSlice, aP_makeSlice, aP_makeMap, aP_toBytes, hP_store, storeK_some, st_K, stK_row, stE_some, cells_agg, cells_bool, scalar_bool, cells_int, scalar_int, cells_str, scalar_str, cells_nilptr, scalar_nilptr, cells_ptr, scalar_ptr, cells_nilslice, scalar_nilslice, cells_slice, scalar_slice, cells_nilmap, scalar_nilmap, cells_map, scalar_map, cells_nilfunc, scalar_nilfunc, cells_func, scalar_func, eqCells, eqLeaf, run_toL, toL_some, ev_toL, getD_toL, put_toL, keep_toL, asc, fput_same, fput_ne, fbase_nil, fbase_cons, fkeep_nil, fkeep_cons, fzero, fnone, List.map_cons, List.map_nil, ev_lit, put_none, resVals, resVal, resOf, partV, fillA, putCells, fillEls, strBin, minV, optNat, appendEls, elsOf, sliceSlV, sliceStrV, List.replicate, List.getElem?_append_left, List.getElem?_append_right, List.set_append_left, List.set_append_right, List.getElem?_set_self, List.getElem?_set_ne, f3, f6, f7, f8, f22, f23, f24, f42, f43, f44, hql, hbl, get_app hbl, set_app hbl, get_set_same hbl, get_set_app hbl, set_set_app hbl, len_beq hbl, beq_len hbl, hpq, hwq, hwo, h40]
                  refine ⟨A.length - (q + 1), by omega, hJ3 _ _ _ ⟨_, q + 1, u, rfl, rfl, hql, rfl, rfl, rfl, rfl, rfl, rfl, rfl, rfl, rfl, rfl, ?_⟩⟩
                  rw [hq1, if_neg h40, List.append_nil]; exact ht
              · have : q = A.length := by omega
                subst this
                rw [List.take_length] at ht
                simp [yld_some, exec_reg, exec_dreg, exec_seq, exec_cond, exec_block, exec_scope, exec_exit, exec_ret, exec_skip, exec_loop, ops_nil, ops_cons, ops_cons_gd, stages_nil, stages_cons_n, stages_cons_h, recheck, wantsOp, AV.same, sames, evalOp_p, evalOp_r, evalOp_a, evalOp_call, evalOp_callV, evalOp_store, evalOp_append, evalOp_clear, evalOp_mapUpdate, evalOp_delete, pP_move, pP_pick, pP_build, pP_nil_ptr, pP_nil_func, pP_bin, pP_eq, pP_neg, pP_inv, pP_not, pP_convInt, pP_convStr, pP_fieldAddr, pP_field, pP_indexAddr, pP_indexStr, pP_sliceStr, pP_sliceSl, pP_lenStr, pP_lenNil, pP_lenSl, pP_min, pP_max, pP_extract, pP_mkfn, bV_add, bV_sub, bV_mul, bV_quo, bV_rem, bV_and, bV_or, bV_xor, bV_andNot, bV_eql, bV_neq, bV_lss, bV_leq, bV_gtr, bV_geq, bV_shl, bV_shr, bV_str, eV_bool, eV_nn, eV_np, eV_pn, eV_snn, eV_sns, eV_ssn, eV_mnn, eV_mnm, eV_mmn, eV_fnn, eV_fnf, eV_ffn, eV_agg, rP_load, rP_lenNil, rP_str0, rdEl_K, rdK_row, aP_alloc, aP_box, aP_buildSlice, aP_makeSlice, aP_makeMap, aP_toBytes, hP_store, storeK_some, st_K, stK_row, stE_some, cells_agg, cells_bool, scalar_bool, cells_int, scalar_int, cells_str, scalar_str, cells_nilptr, scalar_nilptr, cells_ptr, scalar_ptr, cells_nilslice, scalar_nilslice, cells_slice, scalar_slice, cells_nilmap, scalar_nilmap, cells_map, scalar_map, cells_nilfunc, scalar_nilfunc, cells_func, scalar_func, eqCells, eqLeaf, run_toL, toL_some, ev_toL, getD_toL, put_toL, keep_toL, asc, fput_same, fput_ne, fbase_nil, fbase_cons, fkeep_nil, fkeep_cons, fzero, fnone, List.map_cons, List.map_nil, ev_lit, put_none, resVals, resVal, resOf, partV, fillA, putCells, fillEls, strBin, minV, optNat, appendEls, elsOf, sliceSlV, sliceStrV, List.replicate, List.getElem?_append_left, List.getElem?_append_right, List.set_append_left, List.set_append_right, List.getElem?_set_self, List.getElem?_set_ne, f3, f6, f7, f8, f22, f23, f24, f42, f43, f44]
                refine hR3 _ ?_
                simp [yld_some, exec_reg, exec_dreg, exec_seq, exec_cond, exec_block, exec_scope, exec_exit, exec_ret, exec_skip, exec_loop, ops_nil, ops_cons, ops_cons_gd, stages_nil, stages_cons_n, stages_cons_h, recheck, wantsOp, AV.same, sames, evalOp_p, evalOp_r, evalOp_a, evalOp_call, evalOp_callV, evalOp_store, evalOp_append, evalOp_clear, evalOp_mapUpdate, evalOp_delete, pP_move, pP_pick, pP_build, pP_nil_ptr, pP_nil_func, pP_bin, pP_eq, pP_neg, pP_inv, pP_not, pP_convInt, pP_convStr, pP_fieldAddr, pP_field, pP_indexAddr, pP_indexStr, pP_sliceStr, pP_sliceSl, pP_lenStr, pP_lenNil, pP_lenSl, pP_min, pP_max, pP_extract, pP_mkfn, bV_add, bV_sub, bV_mul, bV_quo, bV_rem, bV_and, bV_or, bV_xor, bV_andNot, bV_eql, bV_neq, bV_lss, bV_leq, bV_gtr, bV_geq, bV_shl, bV_shr, bV_str, eV_bool, eV_nn, eV_np, eV_pn, eV_snn, eV_sns, eV_ssn, eV_mnn, eV_mnm, eV_mmn, eV_fnn, eV_fnf, eV_ffn, eV_agg, rP_load, rP_lenNil, rP_str0, rdEl_K, rdK_row, aP_alloc, aP_box, aP_buildSlice, aP_makeSlice, aP_makeMap, aP_toBytes, hP_store, storeK_some, st_K, stK_row, stE_some, cells_agg, cells_bool, scalar_bool, cells_int, scalar_int, cells_str, scalar_str, cells_nilptr, scalar_nilptr, cells_ptr, scalar_ptr, cells_nilslice, scalar_nilslice, cells_slice, scalar_slice, cells_nilmap, scalar_nilmap, cells_map, scalar_map, cells_nilfunc, scalar_nilfunc, cells_func, scalar_func, eqCells, eqLeaf, run_toL, toL_some, ev_toL, getD_toL, put_toL, keep_toL, asc, fput_same, fput_ne, fbase_nil, fbase_cons, fkeep_nil, fkeep_cons, fzero, fnone, List.map_cons, List.map_nil, ev_lit, put_none, resVals, resVal, resOf, partV, fillA, putCells, fillEls, strBin, minV, optNat, appendEls, elsOf, sliceSlV, sliceStrV, List.replicate, List.getElem?_append_left, List.getElem?_append_right, List.set_append_left, List.set_append_right, List.getElem?_set_self, List.getElem?_set_ne, hwj]
                exact ⟨y - (j + 1), by omega, hJ2 _ _ _ ⟨_, j + 1, u, older A, rfl, rfl, hjl, rfl, rfl, rfl, rfl, rfl, rfl, rfl, tk_drop (tk_swap ht), Nat.le_trans (older_len A) hA, older_mem hAo⟩⟩
          · have : j = y := by omega
            subst this
            simp [yld_some, exec_reg, exec_dreg, exec_seq, exec_cond, exec_block, exec_scope, exec_exit, exec_ret, exec_skip, exec_loop, ops_nil, ops_cons, ops_cons_gd, stages_nil, stages_cons_n, stages_cons_h, recheck, wantsOp, AV.same, sames, evalOp_p, evalOp_r, evalOp_a, evalOp_call, evalOp_callV, evalOp_store, evalOp_append, evalOp_clear, evalOp_mapUpdate, evalOp_delete, pP_move, pP_pick, pP_build, pP_nil_ptr, pP_nil_func, pP_bin, pP_eq, pP_neg, pP_inv, pP_not, pP_convInt, pP_convStr, pP_fieldAddr, pP_field, pP_indexAddr, pP_indexStr, pP_sliceStr, pP_sliceSl, pP_lenStr, pP_lenNil, pP_lenSl, pP_min, pP_max, pP_extract, pP_mkfn, bV_add, bV_sub, bV_mul, bV_quo, bV_rem, bV_and, bV_or, bV_xor, bV_andNot, bV_eql, bV_neq, bV_lss, bV_leq, bV_gtr, bV_geq, bV_shl, bV_shr, bV_str, eV_bool, eV_nn, eV_np, eV_pn, eV_snn, eV_sns, eV_ssn, eV_mnn, eV_mnm, eV_mmn, eV_fnn, eV_fnf, eV_ffn, eV_agg, rP_load, rP_lenNil, rP_str0, rdEl_K, rdK_row, aP_alloc, aP_box, aP_buildSlice, aP_makeSlice, aP_makeMap, aP_toBytes, hP_store, storeK_some, st_K, stK_row, stE_some, cells_agg, cells_bool, scalar_bool, cells_int, scalar_int, cells_str, scalar_str, cells_nilptr, scalar_nilptr, cells_ptr, scalar_ptr, cells_nilslice, scalar_nilslice, cells_slice, scalar_slice, cells_nilmap, scalar_nilmap, cells_map, scalar_map, cells_nilfunc, scalar_nilfunc, cells_func, scalar_func, eqCells, eqLeaf, run_toL, toL_some, ev_toL, getD_toL, put_toL, keep_toL, asc, fput_same, fput_ne, fbase_nil, fbase_cons, fkeep_nil, fkeep_cons, fzero, fnone, List.map_cons, List.map_nil, ev_lit, put_none, resVals, resVal, resOf, partV, fillA, putCells, fillEls, strBin, minV, optNat, appendEls, elsOf, sliceSlV, sliceStrV, List.replicate, List.getElem?_append_left, List.getElem?_append_right, List.set_append_left, List.set_append_right, List.getElem?_set_self, List.getElem?_set_ne, f3, f4, f6, f7, f22, f23, f24, hy]
            refine hR2 _ ?_
            have hpc : ∀ v, call fs1 ex1 16 v k = call fs1 ex1 16 v k := fun _ => rfl
            obtain ⟨v0, hg0, _⟩ := ht.gate
            have e16 := points_call hg0
            rw [pts_len] at e16
            have hlw : evalP .lenSl [w] = some (.int .i64 A.length) := by
              rcases ht.wo with ⟨rfl, h0⟩ | ⟨bl, c', els', rfl, _⟩
              · have : A = [] := by simpa [ints] using h0
                subst this; rfl
              · simp [pP_lenSl, ints]
            simp [yld_some, exec_reg, exec_dreg, exec_seq, exec_cond, exec_block, exec_scope, exec_exit, exec_ret, exec_skip, exec_loop, ops_nil, ops_cons, ops_cons_gd, stages_nil, stages_cons_n, stages_cons_h, recheck, wantsOp, AV.same, sames, evalOp_p, evalOp_r, evalOp_a, evalOp_call, evalOp_callV, evalOp_store, evalOp_append, evalOp_clear, evalOp_mapUpdate, evalOp_delete, pP_move, pP_pick, pP_build, pP_nil_ptr, pP_nil_func, pP_bin, pP_eq, pP_neg, pP_inv, pP_not, pP_convInt, pP_convStr, pP_fieldAddr, pP_field, pP_indexAddr, pP_indexStr, pP_sliceStr, pP_sliceSl, pP_lenStr, pP_lenNil, pP_lenSl, pP_min, pP_max, pP_extract, pP_mkfn, bV_add, bV_sub, bV_mul, bV_quo, bV_rem, bV_and, bV_or, bV_xor, bV_andNot, bV_eql, bV_neq, bV_lss, bV_leq, bV_gtr, bV_geq, bV_shl, bV_shr, bV_str, eV_bool, eV_nn, eV_np, eV_pn, eV_snn, eV_sns, eV_ssn, eV_mnn, eV_mnm, eV_mmn, eV_fnn, eV_fnf, eV_ffn, eV_agg, rP_load, rP_lenNil, rP_str0, rdEl_K, rdK_row, aP_alloc, aP_box, aP_buildSlice, aP_makeSlice, aP_makeMap, aP_toBytes, hP_store, storeK_some, st_K, stK_row, stE_some, cells_agg, cells_bool, scalar_bool, cells_int, scalar_int, cells_str, scalar_str, cells_nilptr, scalar_nilptr, cells_ptr, scalar_ptr, cells_nilslice, scalar_nilslice, cells_slice, scalar_slice, cells_nilmap, scalar_nilmap, cells_map, scalar_map, cells_nilfunc, scalar_nilfunc, cells_func, scalar_func, eqCells, eqLeaf, run_toL, toL_some, ev_toL, getD_toL, put_toL, keep_toL, asc, fput_same, fput_ne, fbase_nil, fbase_cons, fkeep_nil, fkeep_cons, fzero, fnone, List.map_cons, List.map_nil, ev_lit, put_none, resVals, resVal, resOf, partV, fillA, putCells, fillEls, strBin, minV, optNat, appendEls, elsOf, sliceSlV, sliceStrV, List.replicate, List.getElem?_append_left, List.getElem?_append_right, List.set_append_left, List.set_append_right, List.getElem?_set_self, List.getElem?_set_ne, e16, hlw, hw]
            exact ⟨els.length - (i + 1), by omega, hJ _ _ _ ⟨_, i + 1, w, A, rfl, rfl, hil, rfl, rfl, rfl, rfl, rfl, ht, hA, hAo⟩⟩
      · have : i = els.length := by omega
        subst this
        simp [yld_some, exec_reg, exec_dreg, exec_seq, exec_cond, exec_block, exec_scope, exec_exit, exec_ret, exec_skip, exec_loop, ops_nil, ops_cons, ops_cons_gd, stages_nil, stages_cons_n, stages_cons_h, recheck, wantsOp, AV.same, sames, evalOp_p, evalOp_r, evalOp_a, evalOp_call, evalOp_callV, evalOp_store, evalOp_append, evalOp_clear, evalOp_mapUpdate, evalOp_delete, pP_move, pP_pick, pP_build, pP_nil_ptr, pP_nil_func, pP_bin, pP_eq, pP_neg, pP_inv, pP_not, pP_convInt, pP_convStr, pP_fieldAddr, pP_field, pP_indexAddr, pP_indexStr, pP_sliceStr, pP_sliceSl, pP_lenStr, pP_lenNil, pP_lenSl, pP_min, pP_max, pP_extract, pP_mkfn, bV_add, bV_sub, bV_mul, bV_quo, bV_rem, bV_and, bV_or, bV_xor, bV_andNot, bV_eql, bV_neq, bV_lss, bV_leq, bV_gtr, bV_geq, bV_shl, bV_shr, bV_str, eV_bool, eV_nn, eV_np, eV_pn, eV_snn, eV_sns, eV_ssn, eV_mnn, eV_mnm, eV_mmn, eV_fnn, eV_fnf, eV_ffn, eV_agg, rP_load, rP_lenNil, rP_str0, rdEl_K, rdK_row, aP_alloc, aP_box, aP_buildSlice, aP_makeSlice, aP_makeMap, aP_toBytes, hP_store, storeK_some, st_K, stK_row, stE_some, cells_agg, cells_bool, scalar_bool, cells_int, scalar_int, cells_str, scalar_str, cells_nilptr, scalar_nilptr, cells_ptr, scalar_ptr, cells_nilslice, scalar_nilslice, cells_slice, scalar_slice, cells_nilmap, scalar_nilmap, cells_map, scalar_map, cells_nilfunc, scalar_nilfunc, cells_func, scalar_func, eqCells, eqLeaf, run_toL, toL_some, ev_toL, getD_toL, put_toL, keep_toL, asc, fput_same, fput_ne, fbase_nil, fbase_cons, fkeep_nil, fkeep_cons, fzero, fnone, List.map_cons, List.map_nil, ev_lit, put_none, resVals, resVal, resOf, partV, fillA, putCells, fillEls, strBin, minV, optNat, appendEls, elsOf, sliceSlV, sliceStrV, List.replicate, List.getElem?_append_left, List.getElem?_append_right, List.set_append_left, List.set_append_right, List.getElem?_set_self, List.getElem?_set_ne, f3, f4, f22, f23, f24]
        refine hR _ ?_
        simp [yld_some, exec_reg, exec_dreg, exec_seq, exec_cond, exec_block, exec_scope, exec_exit, exec_ret, exec_skip, exec_loop, ops_nil, ops_cons, ops_cons_gd, stages_nil, stages_cons_n, stages_cons_h, recheck, wantsOp, AV.same, sames, evalOp_p, evalOp_r, evalOp_a, evalOp_call, evalOp_callV, evalOp_store, evalOp_append, evalOp_clear, evalOp_mapUpdate, evalOp_delete, pP_move, pP_pick, pP_build, pP_nil_ptr, pP_nil_func, pP_bin, pP_eq, pP_neg, pP_inv, pP_not, pP_convInt, pP_convStr, pP_fieldAddr, pP_field, pP_indexAddr, pP_indexStr, pP_sliceStr, pP_sliceSl, pP_lenStr, pP_lenNil, pP_lenSl, pP_min, pP_max, pP_extract, pP_mkfn, bV_add, bV_sub, bV_mul, bV_quo, bV_rem, bV_and, bV_or, bV_xor, bV_andNot, bV_eql, bV_neq, bV_lss, bV_leq, bV_gtr, bV_geq, bV_shl, bV_shr, bV_str, eV_bool, eV_nn, eV_np, eV_pn, eV_snn, eV_sns, eV_ssn, eV_mnn, eV_mnm, eV_mmn, eV_fnn, eV_fnf, eV_ffn, eV_agg, rP_load, rP_lenNil, rP_str0, rdEl_K, rdK_row, aP_alloc, aP_box, aP_buildSlice, aP_makeSlice, aP_makeMap, aP_toBytes, hP_store, storeK_some, st_K, stK_row, stE_some, cells_agg, cells_bool, scalar_bool, cells_int, scalar_int, cells_str, scalar_str, cells_nilptr, scalar_nilptr, cells_ptr, scalar_ptr, cells_nilslice, scalar_nilslice, cells_slice, scalar_slice, cells_nilmap, scalar_nilmap, cells_map, scalar_map, cells_nilfunc, scalar_nilfunc, cells_func, scalar_func, eqCells, eqLeaf, run_toL, toL_some, ev_toL, getD_toL, put_toL, keep_toL, asc, fput_same, fput_ne, fbase_nil, fbase_cons, fkeep_nil, fkeep_cons, fzero, fnone, List.map_cons, List.map_nil, ev_lit, put_none, resVals, resVal, resOf, partV, fillA, putCells, fillEls, strBin, minV, optNat, appendEls, elsOf, sliceSlV, sliceStrV, List.replicate, List.getElem?_append_left, List.getElem?_append_right, List.set_append_left, List.set_append_right, List.getElem?_set_self, List.getElem?_set_ne]
        repeat (first | apply yld_endFn | apply yld_seqK | apply yld_blockK | apply yld_regK | apply yld_opsK | apply yld_putK | apply yld_stgK | apply yld_chkK)
        refine yld_rounds (fun z e k => ∃ f j A1, e = toL 73 f ∧ z = 40 - j ∧ j ≤ 40 ∧ f 3 = .ptr h.length 0 0 ∧ f 11 = .int .i64 (j : Nat) ∧ Tk h h.length (pts A1) w A .nilslice [] k ∧ A1.length ≤ 20 ∧ ∀ o ∈ A1, (j : Int) ≤ o ∧ o < 40) (40 - 0) ?_ ?_
        · exact ⟨_, 0, A, rfl, rfl, Nat.zero_le _, rfl, rfl, ht, by omega, by simpa using hAo⟩
        · clear hJ hR ht f3 f4 f22 f23 f24
          rintro J R hJ hR z e k ⟨f, j, A1, rfl, rfl, hj, f3, f11, ht, hA1, hA1o⟩
          by_cases hjl : j < 40
          · have hwj : IntKind.i64.wrap ((j : Int) + 1) = ((j + 1 : Nat) : Int) := wrap_i64 (by omega) (by omega)
            obtain ⟨⟨_, k1⟩, e9, rfl, t1⟩ := tk_tick ht (by rw [pts_len]; omega) (pts_old fun o ho => by have := hA1o o ho; omega)
            rw [tick_pts] at t1
            have hjl' : (j : Int) < 40 := by omega
            simp [yld_some, exec_reg, exec_dreg, exec_seq, exec_cond, exec_block, exec_scope, exec_exit, exec_ret, exec_skip, exec_loop, ops_nil, ops_cons, ops_cons_gd, stages_nil, stages_cons_n, stages_cons_h, recheck, wantsOp, AV.same, sames, evalOp_p, evalOp_r, evalOp_a, evalOp_call, evalOp_callV, evalOp_store, evalOp_append, evalOp_clear, evalOp_mapUpdate, evalOp_delete, pP_move, pP_pick, pP_build, pP_nil_ptr, pP_nil_func, pP_bin, pP_eq, pP_neg, pP_inv, pP_not, pP_convInt, pP_convStr, pP_fieldAddr, pP_field, pP_indexAddr, pP_indexStr, pP_sliceStr, pP_sliceSl, pP_lenStr, pP_lenNil, pP_lenSl, pP_min, pP_max, pP_extract, pP_mkfn, bV_add, bV_sub, bV_mul, bV_quo, bV_rem, bV_and, bV_or, bV_xor, bV_andNot, bV_eql, bV_neq, bV_lss, bV_leq, bV_gtr, bV_geq, bV_shl, bV_shr, bV_str, eV_bool, eV_nn, eV_np, eV_pn, eV_snn, eV_sns, eV_ssn, eV_mnn, eV_mnm, eV_mmn, eV_fnn, eV_fnf, eV_ffn, eV_agg, rP_load, rP_lenNil, rP_str0, rdEl_K, rdK_row, aP_alloc, aP_box, aP_buildSlice, aP_makeSlice, aP_makeMap, aP_toBytes, hP_store, storeK_some, st_K, stK_row, stE_some, cells_agg, cells_bool, scalar_bool, cells_int, scalar_int, cells_str, scalar_str, cells_nilptr, scalar_nilptr, cells_ptr, scalar_ptr, cells_nilslice, scalar_nilslice, cells_slice, scalar_slice, cells_nilmap, scalar_nilmap, cells_map, scalar_map, cells_nilfunc, scalar_nilfunc, cells_func, scalar_func, eqCells, eqLeaf, run_toL, toL_some, ev_toL, getD_toL, put_toL, keep_toL, asc, fput_same, fput_ne, fbase_nil, fbase_cons, fkeep_nil, fkeep_cons, fzero, fnone, List.map_cons, List.map_nil, ev_lit, put_none, resVals, resVal, resOf, partV, fillA, putCells, fillEls, strBin, minV, optNat, appendEls, elsOf, sliceSlV, sliceStrV, List.replicate, List.getElem?_append_left, List.getElem?_append_right, List.set_append_left, List.set_append_right, List.getElem?_set_self, List.getElem?_set_ne, f3, f11, hjl', e9, hwj]
            refine ⟨40 - (j + 1), by omega, hJ _ _ _ ⟨_, j + 1, older A1, rfl, rfl, hjl, rfl, rfl, t1, Nat.le_trans (older_len A1) hA1, ?_⟩⟩
            intro o ho
            simp only [older, List.mem_filter, List.mem_map, decide_eq_true_eq] at ho
            obtain ⟨⟨q, hq, rfl⟩, h2⟩ := ho
            have := hA1o q hq
            omega
          · have hjl' : ¬ (j : Int) < 40 := by omega
            have hA2 : A1 = [] := by
              cases A1 with
              | nil => rfl
              | cons o A1 => have := hA1o o (by simp); omega
            subst hA2
            simp [yld_some, exec_reg, exec_dreg, exec_seq, exec_cond, exec_block, exec_scope, exec_exit, exec_ret, exec_skip, exec_loop, ops_nil, ops_cons, ops_cons_gd, stages_nil, stages_cons_n, stages_cons_h, recheck, wantsOp, AV.same, sames, evalOp_p, evalOp_r, evalOp_a, evalOp_call, evalOp_callV, evalOp_store, evalOp_append, evalOp_clear, evalOp_mapUpdate, evalOp_delete, pP_move, pP_pick, pP_build, pP_nil_ptr, pP_nil_func, pP_bin, pP_eq, pP_neg, pP_inv, pP_not, pP_convInt, pP_convStr, pP_fieldAddr, pP_field, pP_indexAddr, pP_indexStr, pP_sliceStr, pP_sliceSl, pP_lenStr, pP_lenNil, pP_lenSl, pP_min, pP_max, pP_extract, pP_mkfn, bV_add, bV_sub, bV_mul, bV_quo, bV_rem, bV_and, bV_or, bV_xor, bV_andNot, bV_eql, bV_neq, bV_lss, bV_leq, bV_gtr, bV_geq, bV_shl, bV_shr, bV_str, eV_bool, eV_nn, eV_np, eV_pn, eV_snn, eV_sns, eV_ssn, eV_mnn, eV_mnm, eV_mmn, eV_fnn, eV_fnf, eV_ffn, eV_agg, rP_load, rP_lenNil, rP_str0, rdEl_K, rdK_row, aP_alloc, aP_box, aP_buildSlice, aP_makeSlice, aP_makeMap, aP_toBytes, hP_store, storeK_some, st_K, stK_row, stE_some, cells_agg, cells_bool, scalar_bool, cells_int, scalar_int, cells_str, scalar_str, cells_nilptr, scalar_nilptr, cells_ptr, scalar_ptr, cells_nilslice, scalar_nilslice, cells_slice, scalar_slice, cells_nilmap, scalar_nilmap, cells_map, scalar_map, cells_nilfunc, scalar_nilfunc, cells_func, scalar_func, eqCells, eqLeaf, run_toL, toL_some, ev_toL, getD_toL, put_toL, keep_toL, asc, fput_same, fput_ne, fbase_nil, fbase_cons, fkeep_nil, fkeep_cons, fzero, fnone, List.map_cons, List.map_nil, ev_lit, put_none, resVals, resVal, resOf, partV, fillA, putCells, fillEls, strBin, minV, optNat, appendEls, elsOf, sliceSlV, sliceStrV, List.replicate, List.getElem?_append_left, List.getElem?_append_right, List.set_append_left, List.set_append_right, List.getElem?_set_self, List.getElem?_set_ne, f3, f11, hjl']
            refine hR _ ?_
            obtain ⟨v0, hg0, _⟩ := ht.gate
            have e16 := points_call hg0
            simp [yld_some, exec_reg, exec_dreg, exec_seq, exec_cond, exec_block, exec_scope, exec_exit, exec_ret, exec_skip, exec_loop, ops_nil, ops_cons, ops_cons_gd, stages_nil, stages_cons_n, stages_cons_h, recheck, wantsOp, AV.same, sames, evalOp_p, evalOp_r, evalOp_a, evalOp_call, evalOp_callV, evalOp_store, evalOp_append, evalOp_clear, evalOp_mapUpdate, evalOp_delete, pP_move, pP_pick, pP_build, pP_nil_ptr, pP_nil_func, pP_bin, pP_eq, pP_neg, pP_inv, pP_not, pP_convInt, pP_convStr, pP_fieldAddr, pP_field, pP_indexAddr, pP_indexStr, pP_sliceStr, pP_sliceSl, pP_lenStr, pP_lenNil, pP_lenSl, pP_min, pP_max, pP_extract, pP_mkfn, bV_add, bV_sub, bV_mul, bV_quo, bV_rem, bV_and, bV_or, bV_xor, bV_andNot, bV_eql, bV_neq, bV_lss, bV_leq, bV_gtr, bV_geq, bV_shl, bV_shr, bV_str, eV_bool, eV_nn, eV_np, eV_pn, eV_snn, eV_sns, eV_ssn, eV_mnn, eV_mnm, eV_mmn, eV_fnn, eV_fnf, eV_ffn, eV_agg, rP_load, rP_lenNil, rP_str0, rdEl_K, rdK_row, aP_alloc, aP_box, aP_buildSlice, aP_makeSlice, aP_makeMap, aP_toBytes, hP_store, storeK_some, st_K, stK_row, stE_some, cells_agg, cells_bool, scalar_bool, cells_int, scalar_int, cells_str, scalar_str, cells_nilptr, scalar_nilptr, cells_ptr, scalar_ptr, cells_nilslice, scalar_nilslice, cells_slice, scalar_slice, cells_nilmap, scalar_nilmap, cells_map, scalar_map, cells_nilfunc, scalar_nilfunc, cells_func, scalar_func, eqCells, eqLeaf, run_toL, toL_some, ev_toL, getD_toL, put_toL, keep_toL, asc, fput_same, fput_ne, fbase_nil, fbase_cons, fkeep_nil, fkeep_cons, fzero, fnone, List.map_cons, List.map_nil, ev_lit, put_none, resVals, resVal, resOf, partV, fillA, putCells, fillEls, strBin, minV, optNat, appendEls, elsOf, sliceSlV, sliceStrV, List.replicate, List.getElem?_append_left, List.getElem?_append_right, List.set_append_left, List.set_append_right, List.getElem?_set_self, List.getElem?_set_ne, e16, pts]
            exact hQ _ rfl
end Go.Proofs.Ytkkjhpcjemcdjaa.Gt
namespace Go.Proofs.Ytkkjhpcjemcdjaa.Pure
open Go Go.Eng
theorem GateTicks : LawOk Try.prog 5 F.ss5 := by
  refine ⟨Gt.fs1, Gt.ex1, Gt.fs1_ok, Gt.ex1_ok, fun vs h _ hv => ?_⟩
  simp only [F.ss5, HasVs, HasV, HasF, Has] at hv
  obtain ⟨_, _, rfl, ⟨v, els, hx, hs, _, hm, he⟩, rfl⟩ := hv
  cases hx
  exact Gt.ticks_call hs (fun x hx => by obtain ⟨n, h1, _⟩ := he x hx; exact ⟨n, h1⟩) hm
end Go.Proofs.Ytkkjhpcjemcdjaa.Pure
