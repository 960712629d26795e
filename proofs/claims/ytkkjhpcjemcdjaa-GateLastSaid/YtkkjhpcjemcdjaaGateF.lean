/- Gate: a tick; how many pointers there are. -/
import Derived.Test.YtkkjhpcjemcdjaaGateE
set_option maxRecDepth 100000
set_option linter.unusedVariables false
set_option linter.unusedSimpArgs false
namespace Go.Proofs.Ytkkjhpcjemcdjaa.Gt
open Go Go.Eng F

def Pt.older (p : Pt) : Pt := ⟨p.a, p.b, p.node, p.old + 1⟩
/-- What a tick leaves. -/
def tick (l : List Pt) : List Pt := young (l.map Pt.older)

theorem points_call {h : H} {g : Nat} {v : AV} {s : Bool} {a b : Int} {l : List Pt} (hg : GateAt h g v s a b l) : call fs1 ex1 16 [.ptr g 0 0] h = some (.int .i64 l.length, h) := by
  obtain ⟨hg, hv, hgv⟩ := hg
  rw [call_eq fs1 ex1 (f := 16) (sf := sf16) rfl]
  have hla : (avs l).length = l.length := by simp [avs]
  rcases hv with ⟨rfl, hl⟩ | ⟨bl, cp, els, rfl, hb, hel, hle, hc⟩
  · have : l = [] := by simpa [avs] using hl
    subst this
    simp [sf16, yld_some, exec_reg, exec_dreg, exec_seq, exec_cond, exec_block, exec_scope, exec_exit, exec_ret, exec_skip, exec_loop, ops_nil, ops_cons, ops_cons_gd, stages_nil, stages_cons_n, stages_cons_h, recheck, wantsOp, AV.same, sames, evalOp_p, evalOp_r, evalOp_a, evalOp_call, evalOp_callV, evalOp_store, evalOp_append, evalOp_clear, evalOp_mapUpdate, evalOp_delete, evalP, evalR, evalA, evalHeap, cells_agg, cells_bool, scalar_bool, cells_int, scalar_int, cells_str, scalar_str, cells_nilptr, scalar_nilptr, cells_ptr, scalar_ptr, cells_nilslice, scalar_nilslice, cells_slice, scalar_slice, cells_nilmap, scalar_nilmap, cells_map, scalar_map, cells_nilfunc, scalar_nilfunc, cells_func, scalar_func, eqAV, eqCells, eqLeaf, run_toL, toL_some, ev_toL, getD_toL, put_toL, keep_toL, asc, fput_same, fput_ne, fbase_nil, fbase_cons, fkeep_nil, fkeep_cons, fzero, fnone, List.map_cons, List.map_nil, ev_lit, put_none, resVals, resVal, resOf, rdEl, partV, fillA, putCells, fillEls, st, binV, intBin, bitsV, strBin, minV, optNat, appendEls, elsOf, sliceSlV, sliceStrV, List.replicate, List.getElem?_append_left, List.getElem?_append_right, List.set_append_left, List.set_append_right, List.getElem?_set_self, List.getElem?_set_ne, hg, get_app hg, set_app hg, get_set_same hg, get_set_app hg, set_set_app hg, len_beq hg, beq_len hg]
  · rw [hla] at hg
    simp [sf16, yld_some, exec_reg, exec_dreg, exec_seq, exec_cond, exec_block, exec_scope, exec_exit, exec_ret, exec_skip, exec_loop, ops_nil, ops_cons, ops_cons_gd, stages_nil, stages_cons_n, stages_cons_h, recheck, wantsOp, AV.same, sames, evalOp_p, evalOp_r, evalOp_a, evalOp_call, evalOp_callV, evalOp_store, evalOp_append, evalOp_clear, evalOp_mapUpdate, evalOp_delete, evalP, evalR, evalA, evalHeap, cells_agg, cells_bool, scalar_bool, cells_int, scalar_int, cells_str, scalar_str, cells_nilptr, scalar_nilptr, cells_ptr, scalar_ptr, cells_nilslice, scalar_nilslice, cells_slice, scalar_slice, cells_nilmap, scalar_nilmap, cells_map, scalar_map, cells_nilfunc, scalar_nilfunc, cells_func, scalar_func, eqAV, eqCells, eqLeaf, run_toL, toL_some, ev_toL, getD_toL, put_toL, keep_toL, asc, fput_same, fput_ne, fbase_nil, fbase_cons, fkeep_nil, fkeep_cons, fzero, fnone, List.map_cons, List.map_nil, ev_lit, put_none, resVals, resVal, resOf, rdEl, partV, fillA, putCells, fillEls, st, binV, intBin, bitsV, strBin, minV, optNat, appendEls, elsOf, sliceSlV, sliceStrV, List.replicate, List.getElem?_append_left, List.getElem?_append_right, List.set_append_left, List.set_append_right, List.getElem?_set_self, List.getElem?_set_ne, hg, get_app hg, set_app hg, get_set_same hg, get_set_app hg, set_set_app hg, len_beq hg, beq_len hg]

theorem tick_call {h : H} {g : Nat} {v : AV} {s : Bool} {a b : Int} {l : List Pt} (hg : GateAt h g v s a b l) (hlen : l.length < 4294967296) (hold : ∀ p ∈ l, 0 ≤ p.old ∧ p.old < 40) :
    Yld (call fs1 ex1 9 [.ptr g 0 0] h) fun r => ∃ k v', r = (.tuple [], k) ∧ GateAt k g v' s a b (tick l) ∧ Chg h k (g :: foot v) ∧ ∀ c ∈ foot v', c ∈ foot v := by
  refine yld_shut fun Q hQ => ?_
  obtain ⟨hg, hv, hgv⟩ := hg
  rw [call_eq fs1 ex1 (f := 9) (sf := sf9) rfl]
  have hla : (avs l).length = l.length := by simp [avs]
  rcases hv with ⟨rfl, hl⟩ | ⟨bl, cp, els, rfl, hb, hel, hle, hc⟩
  · have : l = [] := by simpa [avs] using hl
    subst this
    obtain ⟨⟨w, k⟩, e21, k', v', hr, hown, hch, hft⟩ := delete_call (h := h) (v := .nilslice) (l := []) (.inl ⟨rfl, rfl⟩) (by simp)
    cases hr
    have hgk := hch.2 g _ (by simp [foot]) hg
    simp [sf9, yld_some, exec_reg, exec_dreg, exec_seq, exec_cond, exec_block, exec_scope, exec_exit, exec_ret, exec_skip, exec_loop, ops_nil, ops_cons, ops_cons_gd, stages_nil, stages_cons_n, stages_cons_h, recheck, wantsOp, AV.same, sames, evalOp_p, evalOp_r, evalOp_a, evalOp_call, evalOp_callV, evalOp_store, evalOp_append, evalOp_clear, evalOp_mapUpdate, evalOp_delete, evalP, evalR, evalA, evalHeap, cells_agg, cells_bool, scalar_bool, cells_int, scalar_int, cells_str, scalar_str, cells_nilptr, scalar_nilptr, cells_ptr, scalar_ptr, cells_nilslice, scalar_nilslice, cells_slice, scalar_slice, cells_nilmap, scalar_nilmap, cells_map, scalar_map, cells_nilfunc, scalar_nilfunc, cells_func, scalar_func, eqAV, eqCells, eqLeaf, run_toL, toL_some, ev_toL, getD_toL, put_toL, keep_toL, asc, fput_same, fput_ne, fbase_nil, fbase_cons, fkeep_nil, fkeep_cons, fzero, fnone, List.map_cons, List.map_nil, ev_lit, put_none, resVals, resVal, resOf, rdEl, partV, fillA, putCells, fillEls, st, binV, intBin, bitsV, strBin, minV, optNat, appendEls, elsOf, sliceSlV, sliceStrV, List.replicate, List.getElem?_append_left, List.getElem?_append_right, List.set_append_left, List.set_append_right, List.getElem?_set_self, List.getElem?_set_ne, hg, get_app hg, set_app hg, get_set_same hg, get_set_app hg, set_set_app hg, len_beq hg, beq_len hg, itw_eq, yld_some, e21, hgk, get_app hgk, set_app hgk, get_set_same hgk, get_set_app hgk, set_set_app hgk, len_beq hgk, beq_len hgk, hown.cells, hown.scalar]
    refine hQ _ ⟨_, _, rfl, ⟨get_set_same hgk, ?_, ?_⟩, ?_, hft⟩
    · refine Own.keep hown (F := [g]) ((Chg.refl _ _).set (.inl (by simp))) ?_
      intro c hc; exact absurd (hft c hc) (by simp [foot])
    · intro hc; exact absurd (hft g hc) (by simp [foot])
    · exact (hch.mono (by simp [foot])).set (.inl (by simp))
  · rw [hla] at hg hel hle hc
    have hne : bl ≠ g := by rintro rfl; simp [foot] at hgv
    simp [sf9, yld_some, exec_reg, exec_dreg, exec_seq, exec_cond, exec_block, exec_scope, exec_exit, exec_ret, exec_skip, exec_loop, ops_nil, ops_cons, ops_cons_gd, stages_nil, stages_cons_n, stages_cons_h, recheck, wantsOp, AV.same, sames, evalOp_p, evalOp_r, evalOp_a, evalOp_call, evalOp_callV, evalOp_store, evalOp_append, evalOp_clear, evalOp_mapUpdate, evalOp_delete, evalP, evalR, evalA, evalHeap, cells_agg, cells_bool, scalar_bool, cells_int, scalar_int, cells_str, scalar_str, cells_nilptr, scalar_nilptr, cells_ptr, scalar_ptr, cells_nilslice, scalar_nilslice, cells_slice, scalar_slice, cells_nilmap, scalar_nilmap, cells_map, scalar_map, cells_nilfunc, scalar_nilfunc, cells_func, scalar_func, eqAV, eqCells, eqLeaf, run_toL, toL_some, ev_toL, getD_toL, put_toL, keep_toL, asc, fput_same, fput_ne, fbase_nil, fbase_cons, fkeep_nil, fkeep_cons, fzero, fnone, List.map_cons, List.map_nil, ev_lit, put_none, resVals, resVal, resOf, rdEl, partV, fillA, putCells, fillEls, st, binV, intBin, bitsV, strBin, minV, optNat, appendEls, elsOf, sliceSlV, sliceStrV, List.replicate, List.getElem?_append_left, List.getElem?_append_right, List.set_append_left, List.set_append_right, List.getElem?_set_self, List.getElem?_set_ne, hg, get_app hg, set_app hg, get_set_same hg, get_set_app hg, set_set_app hg, len_beq hg, beq_len hg]
    repeat (first | apply yld_endFn | apply yld_seqK | apply yld_blockK | apply yld_regK | apply yld_opsK | apply yld_putK | apply yld_stgK | apply yld_chkK)
    refine yld_rounds (fun m e k => ∃ f i els', e = toL 33 f ∧ m = l.length - i ∧ i ≤ l.length ∧ f 0 = .ptr g 0 0 ∧ f 9 = .int .i64 l.length ∧ f 10 = .int .i64 (i : Nat) ∧ k[bl]? = some (.row 4 els' true true) ∧
      els'.length = els.length ∧ els'.take l.length = avs ((l.take i).map Pt.older ++ l.drop i) ∧ Chg h k [bl]) (l.length - 0) ?_ ?_
    · exact ⟨_, 0, els, rfl, rfl, Nat.zero_le _, rfl, by simp [fput, hla], rfl, hb, rfl, by simpa using hel, Chg.refl _ _⟩
    · rintro J R hJ hR m e k ⟨f, i, els', rfl, rfl, hi, f0, f9, f10, hb', hln, hall, hch⟩
      have hgk := hch.2 g _ (by simpa using Ne.symm hne) hg
      rcases Nat.lt_or_ge i l.length with hil | hil
      · have hp : els'[i]? = some (l[i].av) := by
          rw [take_get hall (by simp [avs]; omega)]
          simp [avs, List.getElem?_append_right, hi, List.getElem?_drop, hil, Nat.min_eq_left hi]
        have hw : IntKind.i64.wrap ((i : Int) + 1) = ((i + 1 : Nat) : Int) := wrap_i64 (by omega) (by omega)
        have ho := hold l[i] (List.getElem_mem _)
        have hwo : IntKind.i64.wrap (l[i].old + 1) = l[i].old + 1 := wrap_i64 (by omega) (by omega)
        simp [yld_some, exec_reg, exec_dreg, exec_seq, exec_cond, exec_block, exec_scope, exec_exit, exec_ret, exec_skip, exec_loop, ops_nil, ops_cons, ops_cons_gd, stages_nil, stages_cons_n, stages_cons_h, recheck, wantsOp, AV.same, sames, evalOp_p, evalOp_r, evalOp_a, evalOp_call, evalOp_callV, evalOp_store, evalOp_append, evalOp_clear, evalOp_mapUpdate, evalOp_delete, evalP, evalR, evalA, evalHeap, cells_agg, cells_bool, scalar_bool, cells_int, scalar_int, cells_str, scalar_str, cells_nilptr, scalar_nilptr, cells_ptr, scalar_ptr, cells_nilslice, scalar_nilslice, cells_slice, scalar_slice, cells_nilmap, scalar_nilmap, cells_map, scalar_map, cells_nilfunc, scalar_nilfunc, cells_func, scalar_func, eqAV, eqCells, eqLeaf, run_toL, toL_some, ev_toL, getD_toL, put_toL, keep_toL, asc, fput_same, fput_ne, fbase_nil, fbase_cons, fkeep_nil, fkeep_cons, fzero, fnone, List.map_cons, List.map_nil, ev_lit, put_none, resVals, resVal, resOf, rdEl, partV, fillA, putCells, fillEls, st, binV, intBin, bitsV, strBin, minV, optNat, appendEls, elsOf, sliceSlV, sliceStrV, List.replicate, List.getElem?_append_left, List.getElem?_append_right, List.set_append_left, List.set_append_right, List.getElem?_set_self, List.getElem?_set_ne, f0, f9, f10, yld_some, hil, hb', get_app hb', set_app hb', get_set_same hb', get_set_app hb', set_set_app hb', len_beq hb', beq_len hb', hgk, get_app hgk, set_app hgk, get_set_same hgk, get_set_app hgk, set_set_app hgk, len_beq hgk, beq_len hgk, hp, Pt.av, hw, hwo]
        refine ⟨l.length - (i + 1), by omega, hJ _ _ _ ⟨_, i + 1, els'.set i l[i].older.av, rfl, rfl, by omega, rfl, rfl, rfl, get_set_same hb', by simpa using hln, ?_, hch.set (.inl (by simp))⟩⟩
        have e1 : avs ((l.take i).map Pt.older ++ l.drop i) = avs ((l.take i).map Pt.older) ++ l[i].av :: avs (l.drop (i + 1)) := by rw [List.drop_eq_getElem_cons hil]; simp only [avs, List.map_append, List.map_cons]
        have e2 : (avs ((l.take i).map Pt.older)).length = i := by simp [avs, hi]
        have e3 := @set_mid _ (avs ((l.take i).map Pt.older)) (avs (l.drop (i + 1))) l[i].av l[i].older.av
        rw [e2] at e3
        rw [List.take_set, hall, e1, e3, take_succ_get hil]
        simp only [avs, List.map_append, List.map_cons, List.map_nil, List.append_assoc, List.cons_append, List.nil_append]
      · have : i = l.length := by omega
        subst this
        simp [yld_some, exec_reg, exec_dreg, exec_seq, exec_cond, exec_block, exec_scope, exec_exit, exec_ret, exec_skip, exec_loop, ops_nil, ops_cons, ops_cons_gd, stages_nil, stages_cons_n, stages_cons_h, recheck, wantsOp, AV.same, sames, evalOp_p, evalOp_r, evalOp_a, evalOp_call, evalOp_callV, evalOp_store, evalOp_append, evalOp_clear, evalOp_mapUpdate, evalOp_delete, evalP, evalR, evalA, evalHeap, cells_agg, cells_bool, scalar_bool, cells_int, scalar_int, cells_str, scalar_str, cells_nilptr, scalar_nilptr, cells_ptr, scalar_ptr, cells_nilslice, scalar_nilslice, cells_slice, scalar_slice, cells_nilmap, scalar_nilmap, cells_map, scalar_map, cells_nilfunc, scalar_nilfunc, cells_func, scalar_func, eqAV, eqCells, eqLeaf, run_toL, toL_some, ev_toL, getD_toL, put_toL, keep_toL, asc, fput_same, fput_ne, fbase_nil, fbase_cons, fkeep_nil, fkeep_cons, fzero, fnone, List.map_cons, List.map_nil, ev_lit, put_none, resVals, resVal, resOf, rdEl, partV, fillA, putCells, fillEls, st, binV, intBin, bitsV, strBin, minV, optNat, appendEls, elsOf, sliceSlV, sliceStrV, List.replicate, List.getElem?_append_left, List.getElem?_append_right, List.set_append_left, List.set_append_right, List.getElem?_set_self, List.getElem?_set_ne, f0, f9, f10, yld_some]
        refine hR _ ?_
        simp at hall
        have hown : Own k 4 (.slice bl 4 0 l.length cp false) (avs (l.map Pt.older)) := .inr ⟨bl, cp, els', by simp [avs], hb', by simpa [avs] using hall, by simp [avs]; omega, by simp [avs]; omega⟩
        obtain ⟨⟨w, k2⟩, e21, k', v', hr, hown2, hch2, hft⟩ := delete_call hown (by simpa using hlen)
        cases hr
        have hgk2 := hch2.2 g _ (by simpa [foot] using Ne.symm hne) hgk
        simp [yld_some, exec_reg, exec_dreg, exec_seq, exec_cond, exec_block, exec_scope, exec_exit, exec_ret, exec_skip, exec_loop, ops_nil, ops_cons, ops_cons_gd, stages_nil, stages_cons_n, stages_cons_h, recheck, wantsOp, AV.same, sames, evalOp_p, evalOp_r, evalOp_a, evalOp_call, evalOp_callV, evalOp_store, evalOp_append, evalOp_clear, evalOp_mapUpdate, evalOp_delete, evalP, evalR, evalA, evalHeap, cells_agg, cells_bool, scalar_bool, cells_int, scalar_int, cells_str, scalar_str, cells_nilptr, scalar_nilptr, cells_ptr, scalar_ptr, cells_nilslice, scalar_nilslice, cells_slice, scalar_slice, cells_nilmap, scalar_nilmap, cells_map, scalar_map, cells_nilfunc, scalar_nilfunc, cells_func, scalar_func, eqAV, eqCells, eqLeaf, run_toL, toL_some, ev_toL, getD_toL, put_toL, keep_toL, asc, fput_same, fput_ne, fbase_nil, fbase_cons, fkeep_nil, fkeep_cons, fzero, fnone, List.map_cons, List.map_nil, ev_lit, put_none, resVals, resVal, resOf, rdEl, partV, fillA, putCells, fillEls, st, binV, intBin, bitsV, strBin, minV, optNat, appendEls, elsOf, sliceSlV, sliceStrV, List.replicate, List.getElem?_append_left, List.getElem?_append_right, List.set_append_left, List.set_append_right, List.getElem?_set_self, List.getElem?_set_ne, hgk, get_app hgk, set_app hgk, get_set_same hgk, get_set_app hgk, set_set_app hgk, len_beq hgk, beq_len hgk, yld_some, e21, hgk2, get_app hgk2, set_app hgk2, get_set_same hgk2, get_set_app hgk2, set_set_app hgk2, len_beq hgk2, beq_len hgk2, hown2.cells, hown2.scalar]
        refine hQ _ ⟨_, _, rfl, ⟨get_set_same hgk2, ?_, ?_⟩, ?_, hft⟩
        · refine Own.keep hown2 (F := [g]) ((Chg.refl _ _).set (.inl (by simp))) ?_
          intro c hc; have := hft c hc; simp [foot] at this; subst this; simpa using hne
        · intro hc; have := hft g hc; simp [foot] at this; exact hne this.symm
        · refine Chg.set ?_ (.inl (by simp))
          exact (hch.mono (by simp [foot])).trans hch2 (by simp [foot])
end Go.Proofs.Ytkkjhpcjemcdjaa.Gt
