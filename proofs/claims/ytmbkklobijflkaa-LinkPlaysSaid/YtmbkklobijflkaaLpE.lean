/- Link: a packet comes. -/
import Derived.Test.YtmbkklobijflkaaLpD
set_option maxRecDepth 100000
set_option linter.unusedVariables false
set_option linter.unusedSimpArgs false
namespace Go.Proofs.Ytmbkklobijflkaa.Lp
open Go Go.Eng F Lk

/-- The letters that come in order now. -/
def drain : Nat → Int → List (Int × Lv) → Int × List (Int × Lv) × List Lv
  | 0, c, l => (c, l, [])
  | n + 1, c, l => match findK (c + 1) l with
    | none => (c, l, [])
    | some (i, x) => let r := drain n (c + 1) (l.eraseIdx i); (r.1, r.2.1, x :: r.2.2)
theorem drain_none {n : Nat} {c : Int} {l : List (Int × Lv)} (h : findK (c + 1) l = none) : drain n c l = (c, l, []) := by
  cases n with
  | zero => rfl
  | succ n => simp [drain, h]
def Pk0.unused : Nat := 0
def _root_.Go.Proofs.Ytmbkklobijflkaa.Lk.Pk.zero : Pk := ⟨0, 0, 0, 0, Lt.zero⟩
def Ls.may (s : Ls) (p : Pv) : Bool := (p.frm == s.peer) && (p.to == s.me) && decide (0 ≤ p.seq) && decide (0 ≤ p.ack) && decide (p.ack ≤ s.out)
/-- What is kept behind a packet whose letter's copy is y. -/
def Ls.keep (s : Ls) (p : Pv) (y : Lv) : List (Int × Lv) := if ((!(findK p.seq s.kept).isSome && decide (s.came < p.seq)) && decide (p.seq - s.came ≤ 64)) = true then s.kept ++ [(p.seq, y)] else s.kept
def Ls.got (s : Ls) (p : Pv) (y : Lv) : Ls × List Lv × Pk × Bool :=
  if s.may p = false then (s, [], Pk.zero, false)
  else if p.seq = 0 then ({ s with waits := later p.ack s.waits }, [], Pk.zero, true)
  else let d := drain (s.keep p y).length s.came (s.keep p y); ({ s with waits := later p.ack s.waits, came := d.1, kept := d.2.1 }, d.2.2, ⟨s.me, s.peer, 0, d.1, Lt.zero⟩, true)
def lts (l : List Lv) : List (List AV) := l.map Lv.av

/-- The loops of a code. -/
def loopsIn : SCode → List (List Nat × SCode)
  | .loop l b => [(l, b)]
  | .seq a b => loopsIn a ++ loopsIn b
  | .cond _ a b => loopsIn a ++ loopsIn b
  | .block _ a => loopsIn a
  | .scope a => loopsIn a
  | _ => []
set_option maxHeartbeats 8000000 in
theorem loop_got {lv : List Nat} {body : SCode} (hb : loopsIn sf12.body = [(lv, body)]) {g m rb : Nat} {v : AV} {s : Ls} {kk : H} {f : Nat → AV} {R : (Ex × Env) × H → Prop}
    (a : LinkAt kk g m v s) (f0 : f 0 = .ptr g 0 0) (f5 : f 5 = .ptr rb 0 0) (f9 : f 9 = .nilslice) (hkl : s.kept.length < 4294967296) (hc : 0 ≤ s.came ∧ s.came < 4611686018427387904)
    (hrb : kk[rb]? = some (.row 25 [Pk.zero.av] true true)) (hrg : rb ≠ g) (hrm : rb ≠ m) (hrv : rb ∉ foot v)
    (hR : ∀ (f' : Nat → AV) (kk' : H) (vo : AV), f' 0 = .ptr g 0 0 → f' 5 = .ptr rb 0 0 → f' 9 = vo → LinkAt kk' g m v { s with came := (drain s.kept.length s.came s.kept).1, kept := (drain s.kept.length s.came s.kept).2.1 } →
      Bk.OwnE kk' 21 vo (lts (drain s.kept.length s.came s.kept).2.2) → Chg kk kk' [g, m] → (∀ c ∈ foot vo, kk.length ≤ c) → R ((.exit 0, toL 119 f'), kk')) :
    Yld (itw (fun env => exec (call Lp.fs3 Lp.ex3) itw body (keepFrom lv 0 env)) (toL 119 f) kk) R := by
  simp [sf12, loopsIn] at hb
  obtain ⟨rfl, rfl⟩ := hb
  have hgk := (List.getElem?_eq_some_iff.1 a.gd).1
  have hmk := (List.getElem?_eq_some_iff.1 a.mp).1
  have hvk := a.ow.lt
  generalize hD : drain s.kept.length s.came s.kept = D at hR
  refine yld_rounds (fun z e k => ∃ f c l o vo, e = toL 119 f ∧ z = l.length ∧ f 0 = .ptr g 0 0 ∧ f 5 = .ptr rb 0 0 ∧ f 9 = vo ∧ LinkAt k g m v { s with came := c, kept := l } ∧ Bk.OwnE k 21 vo (lts o) ∧ Chg kk k [g, m] ∧ (∀ x ∈ foot vo, kk.length ≤ x) ∧
    0 ≤ c ∧ c + l.length < 4611686022722355200 ∧ o.length + l.length < 4294967296 ∧ (drain l.length c l).1 = D.1 ∧ (drain l.length c l).2.1 = D.2.1 ∧ o ++ (drain l.length c l).2.2 = D.2.2) s.kept.length ?_ ?_
  · exact ⟨_, s.came, s.kept, [], .nilslice, rfl, rfl, f0, f5, f9, a, .inl ⟨rfl, rfl⟩, Chg.refl _ _, by simp [foot], hc.1, by omega, by simpa using hkl, by rw [hD], by rw [hD], by rw [hD]; rfl⟩
  · rintro J R' hJ hR' z e k ⟨f, c, l, o, vo, rfl, rfl, f0, f5, f9, a, ho, hch, hfo, hc0, hc1, hol, hD1, hD2, hD3⟩
    have hg := a.gd
    have hm := a.mp
    have hgl := (List.getElem?_eq_some_iff.1 hg).1
    have hml := (List.getElem?_eq_some_iff.1 hm).1
    have w1 : IntKind.i64.wrap (c + 1) = c + 1 := wrap_i64 (by omega) (by omega)
    cases hf : findK (c + 1) l with
    | none =>
      rw [drain_none hf] at hD1 hD2 hD3
      simp at hD1 hD2 hD3
      simp [yld_some, exec_reg, exec_dreg, exec_seq, exec_cond, exec_block, exec_scope, exec_exit, exec_ret, exec_skip, exec_loop, ops_nil, ops_cons, ops_cons_gd, stages_nil, stages_cons_n, stages_cons_h, recheck, wantsOp, AV.same, sames, evalOp_p, evalOp_r, evalOp_a, evalOp_call, evalOp_callV, evalOp_store, evalOp_append, evalOp_clear, evalOp_mapUpdate, evalOp_delete, pP_move, pP_pick, pP_build, pP_nil_ptr, pP_nil_func, pP_bin, pP_eq, pP_neg, pP_inv, pP_not, pP_convInt, pP_convStr, pP_fieldAddr, pP_field, pP_indexAddr, pP_indexStr, pP_sliceStr, pP_sliceSl, pP_lenStr, pP_lenNil, pP_lenSl, pP_min, pP_max, pP_extract, pP_mkfn, bV_add, bV_sub, bV_mul, bV_quo, bV_rem, bV_and, bV_or, bV_xor, bV_andNot, bV_eql, bV_neq, bV_lss, bV_leq, bV_gtr, bV_geq, bV_shl, bV_shr, bV_str, eV_bool, eV_nn, eV_np, eV_pn, eV_snn, eV_sns, eV_ssn, eV_mnn, eV_mnm, eV_mmn, eV_fnn, eV_fnf, eV_ffn, eV_agg, rP_load, rP_lenNil, rP_str0, rdEl_K, rdK_row, aP_alloc, aP_box, aP_buildSlice, aP_makeSlice, aP_makeMap, aP_toBytes, hP_store, storeK_some, st_K, stK_row, stE_some, cells_agg, cells_bool, scalar_bool, cells_int, scalar_int, cells_str, scalar_str, cells_nilptr, scalar_nilptr, cells_ptr, scalar_ptr, cells_nilslice, scalar_nilslice, cells_slice, scalar_slice, cells_nilmap, scalar_nilmap, cells_map, scalar_map, cells_nilfunc, scalar_nilfunc, cells_func, scalar_func, eqCells, eqLeaf, run_toL, toL_some, ev_toL, getD_toL, put_toL, keep_toL, asc, fput_same, fput_ne, fbase_nil, fbase_cons, fkeep_nil, fkeep_cons, fzero, fnone, List.map_cons, List.map_nil, ev_lit, put_none, resVals, resVal, resOf, partV, fillA, putCells, fillEls, strBin, minV, optNat, appendEls, elsOf, sliceSlV, sliceStrV, List.replicate, List.getElem?_append_left, List.getElem?_append_right, List.set_append_left, List.set_append_right, List.getElem?_set_self, List.getElem?_set_ne, hq_get0, hq_get, hq_get2, hq_get3, hp_get0, hp_get, hp_get2, hp_get3, hp_set0, hp_set, hp_set2, hp_set3, wr_0, wr_1, wr_2, wr_3, wr_4, wr_n1, f0, f5, f9, hg, get_app hg, set_app hg, get_set_same hg, get_set_app hg, set_set_app hg, len_beq hg, beq_len hg, hm, get_app hm, set_app hm, get_set_same hm, get_set_app hm, set_set_app hm, len_beq hm, beq_len hm, w1, rP_lookup, lookK_k, hf]
      subst hD3
      rw [← hD1, ← hD2] at hR
      exact hR' _ (hR _ _ vo rfl rfl rfl (a.keep (Chg.app _ _ []) (by simp) (by simp) (by simp)) (Bk.own_app1 ho) hch.more hfo)
    | some r =>
      obtain ⟨i, x⟩ := r
      have hil := findK_lt hf
      have hle : (l.eraseIdx i).length + 1 = l.length := by rw [List.length_eraseIdx_of_lt hil]; omega
      have hd : drain l.length c l = ((drain (l.eraseIdx i).length (c + 1) (l.eraseIdx i)).1, (drain (l.eraseIdx i).length (c + 1) (l.eraseIdx i)).2.1, x :: (drain (l.eraseIdx i).length (c + 1) (l.eraseIdx i)).2.2) := by
        rw [← hle]; simp only [drain, hf]
      rw [hd] at hD1 hD2 hD3
      have hg2 : (k.set m (.map (kents (l.eraseIdx i))))[g]? = _ := (List.getElem?_set_ne a.gm.symm).trans hg
      have hch1 : Chg k (((k.set m (.map (kents (l.eraseIdx i)))).set g (.row 7 [[.int .i64 s.me, .int .i64 s.peer, .int .i64 s.now, .int .i64 s.out, v, .int .i64 (c + 1), .map m]] true true)) ++ [.row 21 [x.av] true true, .row 21 [x.av] true true]) [g, m] :=
        (((Chg.refl _ _).set (.inl (by simp))).set (.inl (by simp))).more
      have hvo : ∀ y ∈ foot vo, y ∉ [g, m] := by
        intro y hy
        have h1 := hfo y hy
        simp; omega
      have ho1 := ho.keep hch1 hvo
      obtain ⟨vo', k2, e9, ho2, hch2, hf2⟩ := Bk.ownE_append ho1 (x := .slice (k.length + 1) 21 0 1 1 true) (X := [x.av]) (.inr <| .inr ⟨k.length + 1, 1, true, [x.av], true, true, rfl, by simp, rfl, by simp⟩) (by simp) (by simp [Lv.av, sv_scalar, scalar_int, scalar_str, scalar_bool]) (by simp [lts]; omega)
      have hlv : ∀ y ∈ foot v, y ∉ foot vo := fun y hy h2 => by have h1 := hfo y h2; have := hvk y hy; omega
      have a2 : LinkAt k2 g m v { s with came := c + 1, kept := l.eraseIdx i } := by
        refine LinkAt.keep (G := foot vo) (k := ((k.set m (.map (kents (l.eraseIdx i)))).set g (.row 7 [[.int .i64 s.me, .int .i64 s.peer, .int .i64 s.now, .int .i64 s.out, v, .int .i64 (c + 1), .map m]] true true)) ++ [.row 21 [x.av] true true, .row 21 [x.av] true true]) ⟨get_app (get_set_same hg2), ?_, ?_, a.gm, a.gv, a.mv⟩ hch2 ?_ ?_ hlv
        · exact a.ow.keep hch1 (by intro y hy; simp; exact ⟨by rintro rfl; exact a.gv hy, by rintro rfl; exact a.mv hy⟩)
        · exact get_app ((List.getElem?_set_ne a.gm).trans (get_set_same hm))
        · intro h2; have h1 := hfo g h2; omega
        · intro h2; have h1 := hfo m h2; omega
      simp only [Lv.av] at e9
      simp [yld_some, exec_reg, exec_dreg, exec_seq, exec_cond, exec_block, exec_scope, exec_exit, exec_ret, exec_skip, exec_loop, ops_nil, ops_cons, ops_cons_gd, stages_nil, stages_cons_n, stages_cons_h, recheck, wantsOp, AV.same, sames, evalOp_p, evalOp_r, evalOp_a, evalOp_call, evalOp_callV, evalOp_store, evalOp_append, evalOp_clear, evalOp_mapUpdate, evalOp_delete, pP_move, pP_pick, pP_build, pP_nil_ptr, pP_nil_func, pP_bin, pP_eq, pP_neg, pP_inv, pP_not, pP_convInt, pP_convStr, pP_fieldAddr, pP_field, pP_indexAddr, pP_indexStr, pP_sliceStr, pP_sliceSl, pP_lenStr, pP_lenNil, pP_lenSl, pP_min, pP_max, pP_extract, pP_mkfn, bV_add, bV_sub, bV_mul, bV_quo, bV_rem, bV_and, bV_or, bV_xor, bV_andNot, bV_eql, bV_neq, bV_lss, bV_leq, bV_gtr, bV_geq, bV_shl, bV_shr, bV_str, eV_bool, eV_nn, eV_np, eV_pn, eV_snn, eV_sns, eV_ssn, eV_mnn, eV_mnm, eV_mmn, eV_fnn, eV_fnf, eV_ffn, eV_agg, rP_load, rP_lenNil, rP_str0, rdEl_K, rdK_row, aP_alloc, aP_box, aP_buildSlice, aP_makeSlice, aP_makeMap, aP_toBytes, hP_store, storeK_some, st_K, stK_row, stE_some, cells_agg, cells_bool, scalar_bool, cells_int, scalar_int, cells_str, scalar_str, cells_nilptr, scalar_nilptr, cells_ptr, scalar_ptr, cells_nilslice, scalar_nilslice, cells_slice, scalar_slice, cells_nilmap, scalar_nilmap, cells_map, scalar_map, cells_nilfunc, scalar_nilfunc, cells_func, scalar_func, eqCells, eqLeaf, run_toL, toL_some, ev_toL, getD_toL, put_toL, keep_toL, asc, fput_same, fput_ne, fbase_nil, fbase_cons, fkeep_nil, fkeep_cons, fzero, fnone, List.map_cons, List.map_nil, ev_lit, put_none, resVals, resVal, resOf, partV, fillA, putCells, fillEls, strBin, minV, optNat, appendEls, elsOf, sliceSlV, sliceStrV, List.replicate, List.getElem?_append_left, List.getElem?_append_right, List.set_append_left, List.set_append_right, List.getElem?_set_self, List.getElem?_set_ne, hq_get0, hq_get, hq_get2, hq_get3, hp_get0, hp_get, hp_get2, hp_get3, hp_set0, hp_set, hp_set2, hp_set3, wr_0, wr_1, wr_2, wr_3, wr_4, wr_n1, f0, f5, f9, hg, get_app hg, set_app hg, get_set_same hg, get_set_app hg, set_set_app hg, len_beq hg, beq_len hg, hm, get_app hm, set_app hm, get_set_same hm, get_set_app hm, set_set_app hm, len_beq hm, beq_len hm, hg2, get_app hg2, set_app hg2, get_set_same hg2, get_set_app hg2, set_set_app hg2, len_beq hg2, beq_len hg2, w1, rP_lookup, lookK_k, hf, hP_delete, delK_k hf, Lv.av, sv_cells, sv_scalar, sv_same, e9]
      refine ⟨(l.eraseIdx i).length, by omega, hJ _ _ _ ⟨_, c + 1, l.eraseIdx i, o ++ [x], vo', rfl, rfl, rfl, rfl, rfl, a2, by simpa [lts] using ho2, ?_, ?_, by omega, by omega, by simp; omega, hD1, hD2, by simpa using hD3⟩⟩
      · refine (hch.trans hch1 (fun c hc => .inl hc)).trans hch2 (fun y hy => .inr (hfo y hy))
      · intro y hy
        have h1 := hf2 y hy
        have := hch.1
        simp at h1; omega

end Go.Proofs.Ytmbkklobijflkaa.Lp
