/- Link: a packet comes. -/
import Derived.Test.YtmbkklobijflkaaLinkD
set_option maxRecDepth 100000
set_option linter.unusedVariables false
set_option linter.unusedSimpArgs false
namespace Go.Proofs.Ytmbkklobijflkaa.Lk
open Go Go.Eng F

/-- The letters that come in order now. -/
def drain : Nat → Int → List (Int × Lt) → Int × List (Int × Lt) × List Lt
  | 0, c, l => (c, l, [])
  | n + 1, c, l => match findK (c + 1) l with
    | none => (c, l, [])
    | some (i, x) => let r := drain n (c + 1) (l.eraseIdx i); (r.1, r.2.1, x :: r.2.2)
theorem drain_none {n : Nat} {c : Int} {l : List (Int × Lt)} (h : findK (c + 1) l = none) : drain n c l = (c, l, []) := by
  cases n with
  | zero => rfl
  | succ n => simp [drain, h]
def Pk.zero : Pk := ⟨0, 0, 0, 0, Lt.zero⟩
def Ls.may (s : Ls) (p : Pk) : Bool := (p.frm == s.peer) && (p.to == s.me) && decide (0 ≤ p.seq) && decide (0 ≤ p.ack) && decide (p.ack ≤ s.out)
def Ls.keep (s : Ls) (p : Pk) : List (Int × Lt) := if ((!(findK p.seq s.kept).isSome && decide (s.came < p.seq)) && decide (p.seq - s.came ≤ 64)) = true then s.kept ++ [(p.seq, p.x)] else s.kept
def Ls.got (s : Ls) (p : Pk) : Ls × List Lt × Pk × Bool :=
  if s.may p = false then (s, [], Pk.zero, false)
  else if p.seq = 0 then ({ s with waits := later p.ack s.waits }, [], Pk.zero, true)
  else let d := drain (s.keep p).length s.came (s.keep p); ({ s with waits := later p.ack s.waits, came := d.1, kept := d.2.1 }, d.2.2, ⟨s.me, s.peer, 0, d.1, Lt.zero⟩, true)
def lts (l : List Lt) : List (List AV) := l.map Lt.av

/-- The loops of a code. -/
def loopsIn : SCode → List (List Nat × SCode)
  | .loop l b => [(l, b)]
  | .seq a b => loopsIn a ++ loopsIn b
  | .cond _ a b => loopsIn a ++ loopsIn b
  | .block _ a => loopsIn a
  | .scope a => loopsIn a
  | _ => []
set_option maxHeartbeats 8000000 in
theorem loop_got {lv : List Nat} {body : SCode} (hb : loopsIn sf12.body = [(lv, body)]) {g m rb : Nat} {v : AV} {s : Ls} {kk : H} {f : Nat → AV} {R : (Ex × Env) × H → Prop}
    (a : LinkAt kk g m v s) (f0 : f 0 = .ptr g 0 0) (f5 : f 5 = .ptr rb 0 0) (f9 : f 9 = .nilslice) (hkl : s.kept.length < 4294967296) (hc : 0 ≤ s.came ∧ s.came < 4611686018427387904)
    (hrb : kk[rb]? = some (.row 25 [Pk.zero.av] true true)) (hrg : rb ≠ g) (hrm : rb ≠ m) (hrv : rb ∉ foot v)
    (hR : ∀ (f' : Nat → AV) (kk' : H) (vo : AV), f' 0 = .ptr g 0 0 → f' 5 = .ptr rb 0 0 → f' 9 = vo → LinkAt kk' g m v { s with came := (drain s.kept.length s.came s.kept).1, kept := (drain s.kept.length s.came s.kept).2.1 } →
      Own kk' 21 vo (lts (drain s.kept.length s.came s.kept).2.2) → Chg kk kk' [g, m] → (∀ c ∈ foot vo, kk.length ≤ c) → R ((.exit 0, toL 119 f'), kk')) :
    Yld (itw (fun env => exec (call fs2 ex2) itw body (keepFrom lv 0 env)) (toL 119 f) kk) R := by
  simp [sf12, loopsIn] at hb
  obtain ⟨rfl, rfl⟩ := hb
  have hgk := (List.getElem?_eq_some_iff.1 a.gd).1
  have hmk := (List.getElem?_eq_some_iff.1 a.mp).1
  have hvk := a.ow.lt
  generalize hD : drain s.kept.length s.came s.kept = D at hR
  refine yld_rounds (fun z e k => ∃ f c l o vo, e = toL 119 f ∧ z = l.length ∧ f 0 = .ptr g 0 0 ∧ f 5 = .ptr rb 0 0 ∧ f 9 = vo ∧ LinkAt k g m v { s with came := c, kept := l } ∧ Own k 21 vo (lts o) ∧ Chg kk k [g, m] ∧ (∀ x ∈ foot vo, kk.length ≤ x) ∧
    0 ≤ c ∧ c + l.length < 4611686022722355200 ∧ o.length + l.length < 4294967296 ∧ (drain l.length c l).1 = D.1 ∧ (drain l.length c l).2.1 = D.2.1 ∧ o ++ (drain l.length c l).2.2 = D.2.2) s.kept.length ?_ ?_
  · exact ⟨_, s.came, s.kept, [], .nilslice, rfl, rfl, f0, f5, f9, a, .inl ⟨rfl, rfl⟩, Chg.refl _ _, by simp [foot], hc.1, by omega, by simpa using hkl, by rw [hD], by rw [hD], by rw [hD]; rfl⟩
  · rintro J R' hJ hR' z e k ⟨f, c, l, o, vo, rfl, rfl, f0, f5, f9, a, ho, hch, hfo, hc0, hc1, hol, hD1, hD2, hD3⟩
    have hg := a.gd
    have hm := a.mp
    have hgl := (List.getElem?_eq_some_iff.1 hg).1
    have hml := (List.getElem?_eq_some_iff.1 hm).1
    have w1 : IntKind.i64.wrap (c + 1) = c + 1 := wrap_i64 (by omega) (by omega)
    cases hf : findK (c + 1) l with
    | none =>
      rw [drain_none hf] at hD1 hD2 hD3
      simp at hD1 hD2 hD3
      simp [yld_some, exec_reg, exec_dreg, exec_seq, exec_cond, exec_block, exec_scope, exec_exit, exec_ret, exec_skip, exec_loop, ops_nil, ops_cons, ops_cons_gd, stages_nil, stages_cons_n, stages_cons_h, recheck, wantsOp, AV.same, sames, evalOp_p, evalOp_r, evalOp_a, evalOp_call, evalOp_callV, evalOp_store, evalOp_append, evalOp_clear, evalOp_mapUpdate, evalOp_delete, pP_move, pP_pick, pP_build, pP_nil_ptr, pP_nil_func, pP_bin, pP_eq, pP_neg, pP_inv, pP_not, pP_convInt, pP_convStr, pP_fieldAddr, pP_field, pP_indexAddr, pP_indexStr, pP_sliceStr, pP_sliceSl, pP_lenStr, pP_lenNil, pP_lenSl, pP_min, pP_max, pP_extract, pP_mkfn, bV_add, bV_sub, bV_mul, bV_quo, bV_rem, bV_and, bV_or, bV_xor, bV_andNot, bV_eql, bV_neq, bV_lss, bV_leq, bV_gtr, bV_geq, bV_shl, bV_shr, bV_str, eV_bool, eV_nn, eV_np, eV_pn, eV_snn, eV_sns, eV_ssn, eV_mnn, eV_mnm, eV_mmn, eV_fnn, eV_fnf, eV_ffn, eV_agg, rP_load, rP_lenNil, rP_str0, rdEl_K, rdK_row, aP_alloc, aP_box, aP_buildSlice, aP_makeSlice, aP_makeMap, aP_toBytes, hP_store, storeK_some, st_K, stK_row, stE_some, cells_agg, cells_bool, scalar_bool, cells_int, scalar_int, cells_str, scalar_str, cells_nilptr, scalar_nilptr, cells_ptr, scalar_ptr, cells_nilslice, scalar_nilslice, cells_slice, scalar_slice, cells_nilmap, scalar_nilmap, cells_map, scalar_map, cells_nilfunc, scalar_nilfunc, cells_func, scalar_func, eqCells, eqLeaf, run_toL, toL_some, ev_toL, getD_toL, put_toL, keep_toL, asc, fput_same, fput_ne, fbase_nil, fbase_cons, fkeep_nil, fkeep_cons, fzero, fnone, List.map_cons, List.map_nil, ev_lit, put_none, resVals, resVal, resOf, partV, fillA, putCells, fillEls, strBin, minV, optNat, appendEls, elsOf, sliceSlV, sliceStrV, List.replicate, List.getElem?_append_left, List.getElem?_append_right, List.set_append_left, List.set_append_right, List.getElem?_set_self, List.getElem?_set_ne, hq_get0, hq_get, hq_get2, hq_get3, hp_get0, hp_get, hp_get2, hp_get3, hp_set0, hp_set, hp_set2, hp_set3, wr_0, wr_1, wr_2, wr_3, wr_4, wr_n1, f0, f5, f9, hg, get_app hg, set_app hg, get_set_same hg, get_set_app hg, set_set_app hg, len_beq hg, beq_len hg, hm, get_app hm, set_app hm, get_set_same hm, get_set_app hm, set_set_app hm, len_beq hm, beq_len hm, w1, rP_lookup, lookK_k, hf]
      subst hD3
      rw [← hD1, ← hD2] at hR
      exact hR' _ (hR _ _ vo rfl rfl rfl (a.keep (Chg.app _ _ []) (by simp) (by simp) (by simp)) (own_keep1 ho _) hch.more hfo)
    | some r =>
      obtain ⟨i, x⟩ := r
      have hil := findK_lt hf
      have hle : (l.eraseIdx i).length + 1 = l.length := by rw [List.length_eraseIdx_of_lt hil]; omega
      have hd : drain l.length c l = ((drain (l.eraseIdx i).length (c + 1) (l.eraseIdx i)).1, (drain (l.eraseIdx i).length (c + 1) (l.eraseIdx i)).2.1, x :: (drain (l.eraseIdx i).length (c + 1) (l.eraseIdx i)).2.2) := by
        rw [← hle]; simp only [drain, hf]
      rw [hd] at hD1 hD2 hD3
      have hg2 : (k.set m (.map (kents (l.eraseIdx i))))[g]? = _ := (List.getElem?_set_ne a.gm.symm).trans hg
      have hch1 : Chg k (((k.set m (.map (kents (l.eraseIdx i)))).set g (.row 7 [[.int .i64 s.me, .int .i64 s.peer, .int .i64 s.now, .int .i64 s.out, v, .int .i64 (c + 1), .map m]] true true)) ++ [.row 21 [x.av] true true, .row 21 [x.av] true true]) [g, m] :=
        (((Chg.refl _ _).set (.inl (by simp))).set (.inl (by simp))).more
      have hvo : ∀ y ∈ foot vo, y ∉ [g, m] := by
        intro y hy
        have h1 := hfo y hy
        simp; omega
      have ho1 := ho.keep hch1 hvo
      obtain ⟨vo', k2, e9, ho2, hch2, hf2⟩ := own_append ho1 (x := x.av) rfl (by simp [Lt.av, AV.scalar]) (t := k.length + 1) (c := 1) (y := true) (wr := true) (ap := true) (by simp) (by simp [lts]; omega)
      have hlv : ∀ y ∈ foot v, y ∉ foot vo := fun y hy h2 => by have h1 := hfo y h2; have := hvk y hy; omega
      have a2 : LinkAt k2 g m v { s with came := c + 1, kept := l.eraseIdx i } := by
        refine LinkAt.keep (G := foot vo) (k := ((k.set m (.map (kents (l.eraseIdx i)))).set g (.row 7 [[.int .i64 s.me, .int .i64 s.peer, .int .i64 s.now, .int .i64 s.out, v, .int .i64 (c + 1), .map m]] true true)) ++ [.row 21 [x.av] true true, .row 21 [x.av] true true]) ⟨get_app (get_set_same hg2), ?_, ?_, a.gm, a.gv, a.mv⟩ hch2 ?_ ?_ hlv
        · exact a.ow.keep hch1 (by intro y hy; simp; exact ⟨by rintro rfl; exact a.gv hy, by rintro rfl; exact a.mv hy⟩)
        · exact get_app ((List.getElem?_set_ne a.gm).trans (get_set_same hm))
        · intro h2; have h1 := hfo g h2; omega
        · intro h2; have h1 := hfo m h2; omega
      simp only [Lt.av] at e9
      simp [yld_some, exec_reg, exec_dreg, exec_seq, exec_cond, exec_block, exec_scope, exec_exit, exec_ret, exec_skip, exec_loop, ops_nil, ops_cons, ops_cons_gd, stages_nil, stages_cons_n, stages_cons_h, recheck, wantsOp, AV.same, sames, evalOp_p, evalOp_r, evalOp_a, evalOp_call, evalOp_callV, evalOp_store, evalOp_append, evalOp_clear, evalOp_mapUpdate, evalOp_delete, pP_move, pP_pick, pP_build, pP_nil_ptr, pP_nil_func, pP_bin, pP_eq, pP_neg, pP_inv, pP_not, pP_convInt, pP_convStr, pP_fieldAddr, pP_field, pP_indexAddr, pP_indexStr, pP_sliceStr, pP_sliceSl, pP_lenStr, pP_lenNil, pP_lenSl, pP_min, pP_max, pP_extract, pP_mkfn, bV_add, bV_sub, bV_mul, bV_quo, bV_rem, bV_and, bV_or, bV_xor, bV_andNot, bV_eql, bV_neq, bV_lss, bV_leq, bV_gtr, bV_geq, bV_shl, bV_shr, bV_str, eV_bool, eV_nn, eV_np, eV_pn, eV_snn, eV_sns, eV_ssn, eV_mnn, eV_mnm, eV_mmn, eV_fnn, eV_fnf, eV_ffn, eV_agg, rP_load, rP_lenNil, rP_str0, rdEl_K, rdK_row, aP_alloc, aP_box, aP_buildSlice, aP_makeSlice, aP_makeMap, aP_toBytes, hP_store, storeK_some, st_K, stK_row, stE_some, cells_agg, cells_bool, scalar_bool, cells_int, scalar_int, cells_str, scalar_str, cells_nilptr, scalar_nilptr, cells_ptr, scalar_ptr, cells_nilslice, scalar_nilslice, cells_slice, scalar_slice, cells_nilmap, scalar_nilmap, cells_map, scalar_map, cells_nilfunc, scalar_nilfunc, cells_func, scalar_func, eqCells, eqLeaf, run_toL, toL_some, ev_toL, getD_toL, put_toL, keep_toL, asc, fput_same, fput_ne, fbase_nil, fbase_cons, fkeep_nil, fkeep_cons, fzero, fnone, List.map_cons, List.map_nil, ev_lit, put_none, resVals, resVal, resOf, partV, fillA, putCells, fillEls, strBin, minV, optNat, appendEls, elsOf, sliceSlV, sliceStrV, List.replicate, List.getElem?_append_left, List.getElem?_append_right, List.set_append_left, List.set_append_right, List.getElem?_set_self, List.getElem?_set_ne, hq_get0, hq_get, hq_get2, hq_get3, hp_get0, hp_get, hp_get2, hp_get3, hp_set0, hp_set, hp_set2, hp_set3, wr_0, wr_1, wr_2, wr_3, wr_4, wr_n1, f0, f5, f9, hg, get_app hg, set_app hg, get_set_same hg, get_set_app hg, set_set_app hg, len_beq hg, beq_len hg, hm, get_app hm, set_app hm, get_set_same hm, get_set_app hm, set_set_app hm, len_beq hm, beq_len hm, hg2, get_app hg2, set_app hg2, get_set_same hg2, get_set_app hg2, set_set_app hg2, len_beq hg2, beq_len hg2, w1, rP_lookup, lookK_k, hf, hP_delete, delK_k hf, Lt.av, e9]
      refine ⟨(l.eraseIdx i).length, by omega, hJ _ _ _ ⟨_, c + 1, l.eraseIdx i, o ++ [x], vo', rfl, rfl, rfl, rfl, rfl, a2, by simpa [lts] using ho2, ?_, ?_, by omega, by omega, by simp; omega, hD1, hD2, by simpa using hD3⟩⟩
      · refine (hch.trans hch1 (fun c hc => .inl hc)).trans hch2 (fun y hy => .inr (hfo y hy))
      · intro y hy
        have h1 := hf2 y hy
        have := hch.1
        simp at h1; omega

def GotQ (k : H) (g m : Nat) (v : AV) (s : Ls) (p : Pk) (r : AV × H) : Prop :=
  ∃ vo v', r.1 = .tuple [vo, .agg (s.got p).2.2.1.av, .bool (s.got p).2.2.2] ∧ LinkAt r.2 g m v' (s.got p).1 ∧ Own r.2 21 vo (lts (s.got p).2.1) ∧ Chg k r.2 (g :: m :: foot v) ∧ (∀ c ∈ foot v', c ∈ foot v) ∧ ∀ c ∈ foot vo, k.length ≤ c

set_option maxHeartbeats 8000000 in
theorem got_call {k : H} {g m : Nat} {v : AV} {s : Ls} (a : LinkAt k g m v s) (hlen : s.waits.length < 4294967296) (hkl : s.kept.length < 4294967295) (hc : 0 ≤ s.came ∧ s.came < 4611686018427387904) (p : Pk) (hp : p.seq ≤ 9223372036854775807) :
    Yld (call fs2 ex2 12 [.ptr g 0 0, .agg p.av] k) (GotQ k g m v s p) := by
  refine yld_shut fun Q hQ => ?_
  rw [call_eq fs2 ex2 (f := 12) (sf := sf12) rfl]
  have hgl := (List.getElem?_eq_some_iff.1 a.gd).1
  have hml := (List.getElem?_eq_some_iff.1 a.mp).1
  have hg := a.gd
  have hm := a.mp
  cases hmay : s.may p
  · have e25 : ∀ z, call fs2 ex2 25 [.ptr g 0 0, .agg p.av] (k ++ z) = some (.bool false, k ++ z) := by
      intro z
      rw [e2_25]
      have : pkOf p.av = some p := rfl
      simp only [ex2, this, get_app hg]
      rw [← hmay]; rfl
    unfold Pk.av at e25
    simp [sf12, yld_some, exec_reg, exec_dreg, exec_seq, exec_cond, exec_block, exec_scope, exec_exit, exec_ret, exec_skip, exec_loop, ops_nil, ops_cons, ops_cons_gd, stages_nil, stages_cons_n, stages_cons_h, recheck, wantsOp, AV.same, sames, evalOp_p, evalOp_r, evalOp_a, evalOp_call, evalOp_callV, evalOp_store, evalOp_append, evalOp_clear, evalOp_mapUpdate, evalOp_delete, pP_move, pP_pick, pP_build, pP_nil_ptr, pP_nil_func, pP_bin, pP_eq, pP_neg, pP_inv, pP_not, pP_convInt, pP_convStr, pP_fieldAddr, pP_field, pP_indexAddr, pP_indexStr, pP_sliceStr, pP_sliceSl, pP_lenStr, pP_lenNil, pP_lenSl, pP_min, pP_max, pP_extract, pP_mkfn, bV_add, bV_sub, bV_mul, bV_quo, bV_rem, bV_and, bV_or, bV_xor, bV_andNot, bV_eql, bV_neq, bV_lss, bV_leq, bV_gtr, bV_geq, bV_shl, bV_shr, bV_str, eV_bool, eV_nn, eV_np, eV_pn, eV_snn, eV_sns, eV_ssn, eV_mnn, eV_mnm, eV_mmn, eV_fnn, eV_fnf, eV_ffn, eV_agg, rP_load, rP_lenNil, rP_str0, rdEl_K, rdK_row, aP_alloc, aP_box, aP_buildSlice, aP_makeSlice, aP_makeMap, aP_toBytes, hP_store, storeK_some, st_K, stK_row, stE_some, cells_agg, cells_bool, scalar_bool, cells_int, scalar_int, cells_str, scalar_str, cells_nilptr, scalar_nilptr, cells_ptr, scalar_ptr, cells_nilslice, scalar_nilslice, cells_slice, scalar_slice, cells_nilmap, scalar_nilmap, cells_map, scalar_map, cells_nilfunc, scalar_nilfunc, cells_func, scalar_func, eqCells, eqLeaf, run_toL, toL_some, ev_toL, getD_toL, put_toL, keep_toL, asc, fput_same, fput_ne, fbase_nil, fbase_cons, fkeep_nil, fkeep_cons, fzero, fnone, List.map_cons, List.map_nil, ev_lit, put_none, resVals, resVal, resOf, partV, fillA, putCells, fillEls, strBin, minV, optNat, appendEls, elsOf, sliceSlV, sliceStrV, List.replicate, List.getElem?_append_left, List.getElem?_append_right, List.set_append_left, List.set_append_right, List.getElem?_set_self, List.getElem?_set_ne, hq_get0, hq_get, hq_get2, hq_get3, hp_get0, hp_get, hp_get2, hp_get3, hp_set0, hp_set, hp_set2, hp_set3, wr_0, wr_1, wr_2, wr_3, wr_4, wr_n1, hg, get_app hg, set_app hg, get_set_same hg, get_set_app hg, set_set_app hg, len_beq hg, beq_len hg, Pk.av, e25]
    refine hQ _ ⟨.nilslice, v, ?_, ?_, .inl ⟨rfl, ?_⟩, Chg.app _ _ _, fun _ h => h, by simp [foot]⟩
    · simp [Ls.got, hmay, Pk.av, Pk.zero, Lt.zero]
    · simp only [Ls.got, hmay, if_true]; exact a.keep (Chg.app k _ []) (by simp) (by simp) (by simp)
    · simp [Ls.got, hmay, lts]
  · have e25 : ∀ z, call fs2 ex2 25 [.ptr g 0 0, .agg p.av] (k ++ z) = some (.bool true, k ++ z) := by
      intro z
      rw [e2_25]
      have : pkOf p.av = some p := rfl
      simp only [ex2, this, get_app hg]
      rw [← hmay]; rfl
    have a1 := a.keep (Chg.app k [.row 25 [p.av] true true, .row 25 [Pk.zero.av] true true] []) (by simp) (by simp) (by simp)
    have hpv : k.length ∉ foot v := fun h => by have := a.ow.lt _ h; omega
    have hrv : k.length + 1 ∉ foot v := fun h => by have := a.ow.lt _ h; omega
    obtain ⟨⟨w0, k0⟩, e26, k1, v1, hr, ho1, hch1, hft1⟩ := delete_call a1.ow hlen (pb := k.length) (p := p) (by simp) hpv
    cases hr
    have hg1 := hch1.2 g _ a1.gv a1.gd
    have hm1 := hch1.2 m _ a1.mv a1.mp
    have hpb1 := hch1.2 k.length _ hpv (show (k ++ [Blk.row 25 [p.av] true true, Blk.row 25 [Pk.zero.av] true true])[k.length]? = some (.row 25 [p.av] true true) by simp)
    have hrb1 := hch1.2 (k.length + 1) _ hrv (show (k ++ [Blk.row 25 [p.av] true true, Blk.row 25 [Pk.zero.av] true true])[k.length + 1]? = some (.row 25 [Pk.zero.av] true true) by simp)
    have hne1 : k.length ≠ g := by omega
    have hne2 : k.length + 1 ≠ g := by omega
    have hft : ∀ z, z ∉ foot v → z ∉ foot w0 := fun z h1 h2 => h1 (hft1 z h2)
    generalize hG : Blk.row 7 [[AV.int .i64 s.me, .int .i64 s.peer, .int .i64 s.now, .int .i64 s.out, w0, .int .i64 s.came, .map m]] true true = G2
    have hmg : (k0.set g G2)[m]? = some (.map (kents s.kept)) := (List.getElem?_set_ne a.gm).trans hm1
    have hrg : (k0.set g G2)[k.length + 1]? = some (.row 25 [Pk.zero.av] true true) := (List.getElem?_set_ne (by omega)).trans hrb1
    have hpg : (k0.set g G2)[k.length]? = some (.row 25 [p.av] true true) := (List.getElem?_set_ne (by omega)).trans hpb1
    have hgg : (k0.set g G2)[g]? = some G2 := get_set_same hg1
    have hch0 : Chg k (k0.set g G2) (g :: m :: foot v) := ((Chg.app k _ (g :: m :: foot v)).trans hch1 (fun c hc => .inl (by simp [hc]))).set (.inl (by simp))
    have a2 : LinkAt (k0.set g G2) g m w0 { s with waits := later p.ack s.waits } := by
      subst hG
      exact ⟨hgg, ho1.keep ((Chg.refl _ [g]).set (.inl (by simp))) (by intro y hy; simp; rintro rfl; exact hft _ a.gv hy), hmg, a.gm, hft _ a.gv, hft _ a.mv⟩
    by_cases hs0 : p.seq = 0
    · have b0 : (p.seq == 0) = true := beq_true hs0
      simp only [Pk.av, Pk.zero, Lt.zero] at e26 hpb1 hrb1 e25 hrg hpg
      subst hG
      simp [sf12, yld_some, exec_reg, exec_dreg, exec_seq, exec_cond, exec_block, exec_scope, exec_exit, exec_ret, exec_skip, exec_loop, ops_nil, ops_cons, ops_cons_gd, stages_nil, stages_cons_n, stages_cons_h, recheck, wantsOp, AV.same, sames, evalOp_p, evalOp_r, evalOp_a, evalOp_call, evalOp_callV, evalOp_store, evalOp_append, evalOp_clear, evalOp_mapUpdate, evalOp_delete, pP_move, pP_pick, pP_build, pP_nil_ptr, pP_nil_func, pP_bin, pP_eq, pP_neg, pP_inv, pP_not, pP_convInt, pP_convStr, pP_fieldAddr, pP_field, pP_indexAddr, pP_indexStr, pP_sliceStr, pP_sliceSl, pP_lenStr, pP_lenNil, pP_lenSl, pP_min, pP_max, pP_extract, pP_mkfn, bV_add, bV_sub, bV_mul, bV_quo, bV_rem, bV_and, bV_or, bV_xor, bV_andNot, bV_eql, bV_neq, bV_lss, bV_leq, bV_gtr, bV_geq, bV_shl, bV_shr, bV_str, eV_bool, eV_nn, eV_np, eV_pn, eV_snn, eV_sns, eV_ssn, eV_mnn, eV_mnm, eV_mmn, eV_fnn, eV_fnf, eV_ffn, eV_agg, rP_load, rP_lenNil, rP_str0, rdEl_K, rdK_row, aP_alloc, aP_box, aP_buildSlice, aP_makeSlice, aP_makeMap, aP_toBytes, hP_store, storeK_some, st_K, stK_row, stE_some, cells_agg, cells_bool, scalar_bool, cells_int, scalar_int, cells_str, scalar_str, cells_nilptr, scalar_nilptr, cells_ptr, scalar_ptr, cells_nilslice, scalar_nilslice, cells_slice, scalar_slice, cells_nilmap, scalar_nilmap, cells_map, scalar_map, cells_nilfunc, scalar_nilfunc, cells_func, scalar_func, eqCells, eqLeaf, run_toL, toL_some, ev_toL, getD_toL, put_toL, keep_toL, asc, fput_same, fput_ne, fbase_nil, fbase_cons, fkeep_nil, fkeep_cons, fzero, fnone, List.map_cons, List.map_nil, ev_lit, put_none, resVals, resVal, resOf, partV, fillA, putCells, fillEls, strBin, minV, optNat, appendEls, elsOf, sliceSlV, sliceStrV, List.replicate, List.getElem?_append_left, List.getElem?_append_right, List.set_append_left, List.set_append_right, List.getElem?_set_self, List.getElem?_set_ne, hq_get0, hq_get, hq_get2, hq_get3, hp_get0, hp_get, hp_get2, hp_get3, hp_set0, hp_set, hp_set2, hp_set3, wr_0, wr_1, wr_2, wr_3, wr_4, wr_n1, hg, get_app hg, set_app hg, get_set_same hg, get_set_app hg, set_set_app hg, len_beq hg, beq_len hg, hg1, get_app hg1, set_app hg1, get_set_same hg1, get_set_app hg1, set_set_app hg1, len_beq hg1, beq_len hg1, hpb1, get_app hpb1, set_app hpb1, get_set_same hpb1, get_set_app hpb1, set_set_app hpb1, len_beq hpb1, beq_len hpb1, hrb1, get_app hrb1, set_app hrb1, get_set_same hrb1, get_set_app hrb1, set_set_app hrb1, len_beq hrb1, beq_len hrb1, hrg, get_app hrg, set_app hrg, get_set_same hrg, get_set_app hrg, set_set_app hrg, len_beq hrg, beq_len hrg, hpg, get_app hpg, set_app hpg, get_set_same hpg, get_set_app hpg, set_set_app hpg, len_beq hpg, beq_len hpg, hgg, get_app hgg, set_app hgg, get_set_same hgg, get_set_app hgg, set_set_app hgg, len_beq hgg, beq_len hgg, Pk.av, e25, e26, ho1.cells, ho1.scalar, b0]
      refine hQ _ ⟨.nilslice, w0, ?_, ?_, .inl ⟨rfl, ?_⟩, ?_, hft1, by simp [foot]⟩
      · simp [Ls.got, hmay, hs0, Pk.av, Pk.zero, Lt.zero]
      · have : (s.got p).1 = { s with waits := later p.ack s.waits } := by simp [Ls.got, hmay, hs0]
        rw [this]
        exact a2.keep ((Chg.refl _ [k.length + 1]).set (.inl (by simp))) (by simp; omega) (by simp; omega) (by intro y hy; simp; rintro rfl; exact hrv (hft1 _ hy))
      · simp [Ls.got, hmay, hs0, lts]
      · exact hch0.set (.inr (by omega))
    · have b0 : (p.seq == 0) = false := beq_false hs0
      have wsub : s.came < p.seq → IntKind.i64.wrap (p.seq - s.came) = p.seq - s.came := fun h => wrap_i64 (by omega) (by omega)
      have hgot : s.got p = ({ s with waits := later p.ack s.waits, came := (drain (s.keep p).length s.came (s.keep p)).1, kept := (drain (s.keep p).length s.came (s.keep p)).2.1 }, (drain (s.keep p).length s.came (s.keep p)).2.2, ⟨s.me, s.peer, 0, (drain (s.keep p).length s.came (s.keep p)).1, Lt.zero⟩, true) := by
        simp [Ls.got, hmay, hs0]
      have fin : ∀ (kk kk' : H) (vo : AV) (z : H), Chg (k0.set g G2) kk [g, m] → LinkAt kk' g m w0 { s with waits := later p.ack s.waits, came := (drain (s.keep p).length s.came (s.keep p)).1, kept := (drain (s.keep p).length s.came (s.keep p)).2.1 } →
          Own kk' 21 vo (lts (drain (s.keep p).length s.came (s.keep p)).2.2) → Chg kk kk' [g, m] → (∀ c ∈ foot vo, kk.length ≤ c) → Q (.tuple [vo, .agg (Pk.av ⟨s.me, s.peer, 0, (drain (s.keep p).length s.came (s.keep p)).1, Lt.zero⟩), .bool true], kk'.set (k.length + 1) (.row 25 [Pk.av ⟨s.me, s.peer, 0, (drain (s.keep p).length s.came (s.keep p)).1, Lt.zero⟩] true true) ++ z) := by
        intro kk kk' vo z hc1 aL oL hc2 hfo
        have hlen1 : k.length + 2 ≤ (k0.set g G2).length := by
          have := hch1.1
          simp at this ⊢; exact this
        have hcr : Chg kk' (kk'.set (k.length + 1) (.row 25 [Pk.av ⟨s.me, s.peer, 0, (drain (s.keep p).length s.came (s.keep p)).1, Lt.zero⟩] true true) ++ z) [k.length + 1] := ((Chg.refl _ _).set (.inl (by simp))).more
        have hvo : ∀ c ∈ foot vo, k.length + 2 ≤ c := fun c hc => by have h1 := hfo c hc; have := hc1.1; omega
        refine hQ _ ⟨vo, w0, ?_, ?_, ?_, ?_, hft1, fun c hc => by have := hvo c hc; omega⟩
        · rw [hgot]
        · rw [hgot]
          exact aL.keep hcr (by simp; omega) (by simp; omega) (by intro y hy; simp; rintro rfl; exact hrv (hft1 _ hy))
        · rw [hgot]
          exact oL.keep hcr (by intro y hy; simp; have := hvo y hy; omega)
        · exact ((hch0.trans hc1 (fun c hc => .inl (by simp at hc ⊢; rcases hc with h | h <;> simp [h]))).trans hc2 (fun c hc => .inl (by simp at hc ⊢; rcases hc with h | h <;> simp [h]))).trans hcr (fun c hc => .inr (by simp at hc; omega))
      cases hf : findK p.seq s.kept with
      | some r =>
        obtain ⟨i, x0⟩ := r
        have hkp : s.keep p = s.kept := by simp [Ls.keep, hf]
        rw [hkp] at fin
        simp only [Pk.av, Pk.zero, Lt.zero] at e26 hpb1 hrb1 e25 hrg hpg
        subst hG
        simp [sf12, yld_some, exec_reg, exec_dreg, exec_seq, exec_cond, exec_block, exec_scope, exec_exit, exec_ret, exec_skip, exec_loop, ops_nil, ops_cons, ops_cons_gd, stages_nil, stages_cons_n, stages_cons_h, recheck, wantsOp, AV.same, sames, evalOp_p, evalOp_r, evalOp_a, evalOp_call, evalOp_callV, evalOp_store, evalOp_append, evalOp_clear, evalOp_mapUpdate, evalOp_delete, pP_move, pP_pick, pP_build, pP_nil_ptr, pP_nil_func, pP_bin, pP_eq, pP_neg, pP_inv, pP_not, pP_convInt, pP_convStr, pP_fieldAddr, pP_field, pP_indexAddr, pP_indexStr, pP_sliceStr, pP_sliceSl, pP_lenStr, pP_lenNil, pP_lenSl, pP_min, pP_max, pP_extract, pP_mkfn, bV_add, bV_sub, bV_mul, bV_quo, bV_rem, bV_and, bV_or, bV_xor, bV_andNot, bV_eql, bV_neq, bV_lss, bV_leq, bV_gtr, bV_geq, bV_shl, bV_shr, bV_str, eV_bool, eV_nn, eV_np, eV_pn, eV_snn, eV_sns, eV_ssn, eV_mnn, eV_mnm, eV_mmn, eV_fnn, eV_fnf, eV_ffn, eV_agg, rP_load, rP_lenNil, rP_str0, rdEl_K, rdK_row, aP_alloc, aP_box, aP_buildSlice, aP_makeSlice, aP_makeMap, aP_toBytes, hP_store, storeK_some, st_K, stK_row, stE_some, cells_agg, cells_bool, scalar_bool, cells_int, scalar_int, cells_str, scalar_str, cells_nilptr, scalar_nilptr, cells_ptr, scalar_ptr, cells_nilslice, scalar_nilslice, cells_slice, scalar_slice, cells_nilmap, scalar_nilmap, cells_map, scalar_map, cells_nilfunc, scalar_nilfunc, cells_func, scalar_func, eqCells, eqLeaf, run_toL, toL_some, ev_toL, getD_toL, put_toL, keep_toL, asc, fput_same, fput_ne, fbase_nil, fbase_cons, fkeep_nil, fkeep_cons, fzero, fnone, List.map_cons, List.map_nil, ev_lit, put_none, resVals, resVal, resOf, partV, fillA, putCells, fillEls, strBin, minV, optNat, appendEls, elsOf, sliceSlV, sliceStrV, List.replicate, List.getElem?_append_left, List.getElem?_append_right, List.set_append_left, List.set_append_right, List.getElem?_set_self, List.getElem?_set_ne, hq_get0, hq_get, hq_get2, hq_get3, hp_get0, hp_get, hp_get2, hp_get3, hp_set0, hp_set, hp_set2, hp_set3, wr_0, wr_1, wr_2, wr_3, wr_4, wr_n1, hg, get_app hg, set_app hg, get_set_same hg, get_set_app hg, set_set_app hg, len_beq hg, beq_len hg, hg1, get_app hg1, set_app hg1, get_set_same hg1, get_set_app hg1, set_set_app hg1, len_beq hg1, beq_len hg1, hpb1, get_app hpb1, set_app hpb1, get_set_same hpb1, get_set_app hpb1, set_set_app hpb1, len_beq hpb1, beq_len hpb1, hrb1, get_app hrb1, set_app hrb1, get_set_same hrb1, get_set_app hrb1, set_set_app hrb1, len_beq hrb1, beq_len hrb1, hrg, get_app hrg, set_app hrg, get_set_same hrg, get_set_app hrg, set_set_app hrg, len_beq hrg, beq_len hrg, hpg, get_app hpg, set_app hpg, get_set_same hpg, get_set_app hpg, set_set_app hpg, len_beq hpg, beq_len hpg, hgg, get_app hgg, set_app hgg, get_set_same hgg, get_set_app hgg, set_set_app hgg, len_beq hgg, beq_len hgg, hmg, get_app hmg, set_app hmg, get_set_same hmg, get_set_app hmg, set_set_app hmg, len_beq hmg, beq_len hmg, Pk.av, Lt.av, e25, e26, ho1.cells, ho1.scalar, b0, rP_lookup, lookK_k, hf]
        repeat (first | apply yld_endFn | apply yld_seqK | apply yld_blockK | apply yld_regK | apply yld_opsK | apply yld_putK | apply yld_stgK | apply yld_chkK)
        refine loop_got (by simp [sf12, loopsIn]) (s := { s with waits := later p.ack s.waits, kept := s.kept }) (a2.keep (Chg.app _ _ []) (by simp) (by simp) (by simp)) rfl rfl rfl (by simp; omega) hc (get_app hrg) (by omega) (by omega) (fun h => hrv (hft1 _ h)) ?_
        intro f' kk' vo f0' f5' f9' aL oL chL foL
        have gL := aL.gd
        have rL := chL.2 (k.length + 1) _ (by simp; omega) (get_app hrg)
        have oc := oL.cells
        have os := oL.scalar
        have fin := fun z => fin _ kk' vo z (Chg.app _ _ _) aL oL chL foL
        simp only [Pk.av, Pk.zero, Lt.zero] at rL fin
        have fin0 := fin []
        simp only [List.append_nil] at fin0
        simp [yld_some, exec_reg, exec_dreg, exec_seq, exec_cond, exec_block, exec_scope, exec_exit, exec_ret, exec_skip, exec_loop, ops_nil, ops_cons, ops_cons_gd, stages_nil, stages_cons_n, stages_cons_h, recheck, wantsOp, AV.same, sames, evalOp_p, evalOp_r, evalOp_a, evalOp_call, evalOp_callV, evalOp_store, evalOp_append, evalOp_clear, evalOp_mapUpdate, evalOp_delete, pP_move, pP_pick, pP_build, pP_nil_ptr, pP_nil_func, pP_bin, pP_eq, pP_neg, pP_inv, pP_not, pP_convInt, pP_convStr, pP_fieldAddr, pP_field, pP_indexAddr, pP_indexStr, pP_sliceStr, pP_sliceSl, pP_lenStr, pP_lenNil, pP_lenSl, pP_min, pP_max, pP_extract, pP_mkfn, bV_add, bV_sub, bV_mul, bV_quo, bV_rem, bV_and, bV_or, bV_xor, bV_andNot, bV_eql, bV_neq, bV_lss, bV_leq, bV_gtr, bV_geq, bV_shl, bV_shr, bV_str, eV_bool, eV_nn, eV_np, eV_pn, eV_snn, eV_sns, eV_ssn, eV_mnn, eV_mnm, eV_mmn, eV_fnn, eV_fnf, eV_ffn, eV_agg, rP_load, rP_lenNil, rP_str0, rdEl_K, rdK_row, aP_alloc, aP_box, aP_buildSlice, aP_makeSlice, aP_makeMap, aP_toBytes, hP_store, storeK_some, st_K, stK_row, stE_some, cells_agg, cells_bool, scalar_bool, cells_int, scalar_int, cells_str, scalar_str, cells_nilptr, scalar_nilptr, cells_ptr, scalar_ptr, cells_nilslice, scalar_nilslice, cells_slice, scalar_slice, cells_nilmap, scalar_nilmap, cells_map, scalar_map, cells_nilfunc, scalar_nilfunc, cells_func, scalar_func, eqCells, eqLeaf, run_toL, toL_some, ev_toL, getD_toL, put_toL, keep_toL, asc, fput_same, fput_ne, fbase_nil, fbase_cons, fkeep_nil, fkeep_cons, fzero, fnone, List.map_cons, List.map_nil, ev_lit, put_none, resVals, resVal, resOf, partV, fillA, putCells, fillEls, strBin, minV, optNat, appendEls, elsOf, sliceSlV, sliceStrV, List.replicate, List.getElem?_append_left, List.getElem?_append_right, List.set_append_left, List.set_append_right, List.getElem?_set_self, List.getElem?_set_ne, hq_get0, hq_get, hq_get2, hq_get3, hp_get0, hp_get, hp_get2, hp_get3, hp_set0, hp_set, hp_set2, hp_set3, wr_0, wr_1, wr_2, wr_3, wr_4, wr_n1, f0', f5', f9', gL, get_app gL, set_app gL, get_set_same gL, get_set_app gL, set_set_app gL, len_beq gL, beq_len gL, rL, get_app rL, set_app rL, get_set_same rL, get_set_app rL, set_set_app rL, len_beq rL, beq_len rL, oc, os, fin, fin0]
      | none =>
        by_cases h1 : s.came < p.seq
        rotate_left
        · have d1 : decide (s.came < p.seq) = false := dec_false h1
          have hkp : s.keep p = s.kept := by simp [Ls.keep, hf, d1]
          rw [hkp] at fin
          simp only [Pk.av, Pk.zero, Lt.zero] at e26 hpb1 hrb1 e25 hrg hpg
          subst hG
          simp [sf12, yld_some, exec_reg, exec_dreg, exec_seq, exec_cond, exec_block, exec_scope, exec_exit, exec_ret, exec_skip, exec_loop, ops_nil, ops_cons, ops_cons_gd, stages_nil, stages_cons_n, stages_cons_h, recheck, wantsOp, AV.same, sames, evalOp_p, evalOp_r, evalOp_a, evalOp_call, evalOp_callV, evalOp_store, evalOp_append, evalOp_clear, evalOp_mapUpdate, evalOp_delete, pP_move, pP_pick, pP_build, pP_nil_ptr, pP_nil_func, pP_bin, pP_eq, pP_neg, pP_inv, pP_not, pP_convInt, pP_convStr, pP_fieldAddr, pP_field, pP_indexAddr, pP_indexStr, pP_sliceStr, pP_sliceSl, pP_lenStr, pP_lenNil, pP_lenSl, pP_min, pP_max, pP_extract, pP_mkfn, bV_add, bV_sub, bV_mul, bV_quo, bV_rem, bV_and, bV_or, bV_xor, bV_andNot, bV_eql, bV_neq, bV_lss, bV_leq, bV_gtr, bV_geq, bV_shl, bV_shr, bV_str, eV_bool, eV_nn, eV_np, eV_pn, eV_snn, eV_sns, eV_ssn, eV_mnn, eV_mnm, eV_mmn, eV_fnn, eV_fnf, eV_ffn, eV_agg, rP_load, rP_lenNil, rP_str0, rdEl_K, rdK_row, aP_alloc, aP_box, aP_buildSlice, aP_makeSlice, aP_makeMap, aP_toBytes, hP_store, storeK_some, st_K, stK_row, stE_some, cells_agg, cells_bool, scalar_bool, cells_int, scalar_int, cells_str, scalar_str, cells_nilptr, scalar_nilptr, cells_ptr, scalar_ptr, cells_nilslice, scalar_nilslice, cells_slice, scalar_slice, cells_nilmap, scalar_nilmap, cells_map, scalar_map, cells_nilfunc, scalar_nilfunc, cells_func, scalar_func, eqCells, eqLeaf, run_toL, toL_some, ev_toL, getD_toL, put_toL, keep_toL, asc, fput_same, fput_ne, fbase_nil, fbase_cons, fkeep_nil, fkeep_cons, fzero, fnone, List.map_cons, List.map_nil, ev_lit, put_none, resVals, resVal, resOf, partV, fillA, putCells, fillEls, strBin, minV, optNat, appendEls, elsOf, sliceSlV, sliceStrV, List.replicate, List.getElem?_append_left, List.getElem?_append_right, List.set_append_left, List.set_append_right, List.getElem?_set_self, List.getElem?_set_ne, hq_get0, hq_get, hq_get2, hq_get3, hp_get0, hp_get, hp_get2, hp_get3, hp_set0, hp_set, hp_set2, hp_set3, wr_0, wr_1, wr_2, wr_3, wr_4, wr_n1, hg, get_app hg, set_app hg, get_set_same hg, get_set_app hg, set_set_app hg, len_beq hg, beq_len hg, hg1, get_app hg1, set_app hg1, get_set_same hg1, get_set_app hg1, set_set_app hg1, len_beq hg1, beq_len hg1, hpb1, get_app hpb1, set_app hpb1, get_set_same hpb1, get_set_app hpb1, set_set_app hpb1, len_beq hpb1, beq_len hpb1, hrb1, get_app hrb1, set_app hrb1, get_set_same hrb1, get_set_app hrb1, set_set_app hrb1, len_beq hrb1, beq_len hrb1, hrg, get_app hrg, set_app hrg, get_set_same hrg, get_set_app hrg, set_set_app hrg, len_beq hrg, beq_len hrg, hpg, get_app hpg, set_app hpg, get_set_same hpg, get_set_app hpg, set_set_app hpg, len_beq hpg, beq_len hpg, hgg, get_app hgg, set_app hgg, get_set_same hgg, get_set_app hgg, set_set_app hgg, len_beq hgg, beq_len hgg, hmg, get_app hmg, set_app hmg, get_set_same hmg, get_set_app hmg, set_set_app hmg, len_beq hmg, beq_len hmg, Pk.av, Lt.av, e25, e26, ho1.cells, ho1.scalar, b0, rP_lookup, lookK_k, hf, d1]
          repeat (first | apply yld_endFn | apply yld_seqK | apply yld_blockK | apply yld_regK | apply yld_opsK | apply yld_putK | apply yld_stgK | apply yld_chkK)
          refine loop_got (by simp [sf12, loopsIn]) (s := { s with waits := later p.ack s.waits, kept := s.kept }) (a2.keep (Chg.app _ _ []) (by simp) (by simp) (by simp)) rfl rfl rfl (by simp; omega) hc (get_app hrg) (by omega) (by omega) (fun h => hrv (hft1 _ h)) ?_
          intro f' kk' vo f0' f5' f9' aL oL chL foL
          have gL := aL.gd
          have rL := chL.2 (k.length + 1) _ (by simp; omega) (get_app hrg)
          have oc := oL.cells
          have os := oL.scalar
          have fin := fun z => fin _ kk' vo z (Chg.app _ _ _) aL oL chL foL
          simp only [Pk.av, Pk.zero, Lt.zero] at rL fin
          have fin0 := fin []
          simp only [List.append_nil] at fin0
          simp [yld_some, exec_reg, exec_dreg, exec_seq, exec_cond, exec_block, exec_scope, exec_exit, exec_ret, exec_skip, exec_loop, ops_nil, ops_cons, ops_cons_gd, stages_nil, stages_cons_n, stages_cons_h, recheck, wantsOp, AV.same, sames, evalOp_p, evalOp_r, evalOp_a, evalOp_call, evalOp_callV, evalOp_store, evalOp_append, evalOp_clear, evalOp_mapUpdate, evalOp_delete, pP_move, pP_pick, pP_build, pP_nil_ptr, pP_nil_func, pP_bin, pP_eq, pP_neg, pP_inv, pP_not, pP_convInt, pP_convStr, pP_fieldAddr, pP_field, pP_indexAddr, pP_indexStr, pP_sliceStr, pP_sliceSl, pP_lenStr, pP_lenNil, pP_lenSl, pP_min, pP_max, pP_extract, pP_mkfn, bV_add, bV_sub, bV_mul, bV_quo, bV_rem, bV_and, bV_or, bV_xor, bV_andNot, bV_eql, bV_neq, bV_lss, bV_leq, bV_gtr, bV_geq, bV_shl, bV_shr, bV_str, eV_bool, eV_nn, eV_np, eV_pn, eV_snn, eV_sns, eV_ssn, eV_mnn, eV_mnm, eV_mmn, eV_fnn, eV_fnf, eV_ffn, eV_agg, rP_load, rP_lenNil, rP_str0, rdEl_K, rdK_row, aP_alloc, aP_box, aP_buildSlice, aP_makeSlice, aP_makeMap, aP_toBytes, hP_store, storeK_some, st_K, stK_row, stE_some, cells_agg, cells_bool, scalar_bool, cells_int, scalar_int, cells_str, scalar_str, cells_nilptr, scalar_nilptr, cells_ptr, scalar_ptr, cells_nilslice, scalar_nilslice, cells_slice, scalar_slice, cells_nilmap, scalar_nilmap, cells_map, scalar_map, cells_nilfunc, scalar_nilfunc, cells_func, scalar_func, eqCells, eqLeaf, run_toL, toL_some, ev_toL, getD_toL, put_toL, keep_toL, asc, fput_same, fput_ne, fbase_nil, fbase_cons, fkeep_nil, fkeep_cons, fzero, fnone, List.map_cons, List.map_nil, ev_lit, put_none, resVals, resVal, resOf, partV, fillA, putCells, fillEls, strBin, minV, optNat, appendEls, elsOf, sliceSlV, sliceStrV, List.replicate, List.getElem?_append_left, List.getElem?_append_right, List.set_append_left, List.set_append_right, List.getElem?_set_self, List.getElem?_set_ne, hq_get0, hq_get, hq_get2, hq_get3, hp_get0, hp_get, hp_get2, hp_get3, hp_set0, hp_set, hp_set2, hp_set3, wr_0, wr_1, wr_2, wr_3, wr_4, wr_n1, f0', f5', f9', gL, get_app gL, set_app gL, get_set_same gL, get_set_app gL, set_set_app gL, len_beq gL, beq_len gL, rL, get_app rL, set_app rL, get_set_same rL, get_set_app rL, set_set_app rL, len_beq rL, beq_len rL, oc, os, fin, fin0]
        have d1 : decide (s.came < p.seq) = true := dec_true h1
        have ws := wsub h1
        by_cases h2 : p.seq - s.came ≤ 64
        rotate_left
        · have d2 : decide (p.seq - s.came ≤ 64) = false := dec_false h2
          have hkp : s.keep p = s.kept := by simp [Ls.keep, hf, d1, d2]
          rw [hkp] at fin
          simp only [Pk.av, Pk.zero, Lt.zero] at e26 hpb1 hrb1 e25 hrg hpg
          subst hG
          simp [sf12, yld_some, exec_reg, exec_dreg, exec_seq, exec_cond, exec_block, exec_scope, exec_exit, exec_ret, exec_skip, exec_loop, ops_nil, ops_cons, ops_cons_gd, stages_nil, stages_cons_n, stages_cons_h, recheck, wantsOp, AV.same, sames, evalOp_p, evalOp_r, evalOp_a, evalOp_call, evalOp_callV, evalOp_store, evalOp_append, evalOp_clear, evalOp_mapUpdate, evalOp_delete, pP_move, pP_pick, pP_build, pP_nil_ptr, pP_nil_func, pP_bin, pP_eq, pP_neg, pP_inv, pP_not, pP_convInt, pP_convStr, pP_fieldAddr, pP_field, pP_indexAddr, pP_indexStr, pP_sliceStr, pP_sliceSl, pP_lenStr, pP_lenNil, pP_lenSl, pP_min, pP_max, pP_extract, pP_mkfn, bV_add, bV_sub, bV_mul, bV_quo, bV_rem, bV_and, bV_or, bV_xor, bV_andNot, bV_eql, bV_neq, bV_lss, bV_leq, bV_gtr, bV_geq, bV_shl, bV_shr, bV_str, eV_bool, eV_nn, eV_np, eV_pn, eV_snn, eV_sns, eV_ssn, eV_mnn, eV_mnm, eV_mmn, eV_fnn, eV_fnf, eV_ffn, eV_agg, rP_load, rP_lenNil, rP_str0, rdEl_K, rdK_row, aP_alloc, aP_box, aP_buildSlice, aP_makeSlice, aP_makeMap, aP_toBytes, hP_store, storeK_some, st_K, stK_row, stE_some, cells_agg, cells_bool, scalar_bool, cells_int, scalar_int, cells_str, scalar_str, cells_nilptr, scalar_nilptr, cells_ptr, scalar_ptr, cells_nilslice, scalar_nilslice, cells_slice, scalar_slice, cells_nilmap, scalar_nilmap, cells_map, scalar_map, cells_nilfunc, scalar_nilfunc, cells_func, scalar_func, eqCells, eqLeaf, run_toL, toL_some, ev_toL, getD_toL, put_toL, keep_toL, asc, fput_same, fput_ne, fbase_nil, fbase_cons, fkeep_nil, fkeep_cons, fzero, fnone, List.map_cons, List.map_nil, ev_lit, put_none, resVals, resVal, resOf, partV, fillA, putCells, fillEls, strBin, minV, optNat, appendEls, elsOf, sliceSlV, sliceStrV, List.replicate, List.getElem?_append_left, List.getElem?_append_right, List.set_append_left, List.set_append_right, List.getElem?_set_self, List.getElem?_set_ne, hq_get0, hq_get, hq_get2, hq_get3, hp_get0, hp_get, hp_get2, hp_get3, hp_set0, hp_set, hp_set2, hp_set3, wr_0, wr_1, wr_2, wr_3, wr_4, wr_n1, hg, get_app hg, set_app hg, get_set_same hg, get_set_app hg, set_set_app hg, len_beq hg, beq_len hg, hg1, get_app hg1, set_app hg1, get_set_same hg1, get_set_app hg1, set_set_app hg1, len_beq hg1, beq_len hg1, hpb1, get_app hpb1, set_app hpb1, get_set_same hpb1, get_set_app hpb1, set_set_app hpb1, len_beq hpb1, beq_len hpb1, hrb1, get_app hrb1, set_app hrb1, get_set_same hrb1, get_set_app hrb1, set_set_app hrb1, len_beq hrb1, beq_len hrb1, hrg, get_app hrg, set_app hrg, get_set_same hrg, get_set_app hrg, set_set_app hrg, len_beq hrg, beq_len hrg, hpg, get_app hpg, set_app hpg, get_set_same hpg, get_set_app hpg, set_set_app hpg, len_beq hpg, beq_len hpg, hgg, get_app hgg, set_app hgg, get_set_same hgg, get_set_app hgg, set_set_app hgg, len_beq hgg, beq_len hgg, hmg, get_app hmg, set_app hmg, get_set_same hmg, get_set_app hmg, set_set_app hmg, len_beq hmg, beq_len hmg, Pk.av, Lt.av, e25, e26, e2_28, ex2, ltOf, ho1.cells, ho1.scalar, b0, rP_lookup, lookK_k, hf, d1, ws, d2]
          repeat (first | apply yld_endFn | apply yld_seqK | apply yld_blockK | apply yld_regK | apply yld_opsK | apply yld_putK | apply yld_stgK | apply yld_chkK)
          refine loop_got (by simp [sf12, loopsIn]) (s := { s with waits := later p.ack s.waits, kept := s.kept }) (a2.keep (Chg.app _ _ []) (by simp) (by simp) (by simp)) rfl rfl rfl (by simp; omega) hc (get_app hrg) (by omega) (by omega) (fun h => hrv (hft1 _ h)) ?_
          intro f' kk' vo f0' f5' f9' aL oL chL foL
          have gL := aL.gd
          have rL := chL.2 (k.length + 1) _ (by simp; omega) (get_app hrg)
          have oc := oL.cells
          have os := oL.scalar
          have fin := fun z => fin _ kk' vo z (Chg.app _ _ _) aL oL chL foL
          simp only [Pk.av, Pk.zero, Lt.zero] at rL fin
          have fin0 := fin []
          simp only [List.append_nil] at fin0
          simp [yld_some, exec_reg, exec_dreg, exec_seq, exec_cond, exec_block, exec_scope, exec_exit, exec_ret, exec_skip, exec_loop, ops_nil, ops_cons, ops_cons_gd, stages_nil, stages_cons_n, stages_cons_h, recheck, wantsOp, AV.same, sames, evalOp_p, evalOp_r, evalOp_a, evalOp_call, evalOp_callV, evalOp_store, evalOp_append, evalOp_clear, evalOp_mapUpdate, evalOp_delete, pP_move, pP_pick, pP_build, pP_nil_ptr, pP_nil_func, pP_bin, pP_eq, pP_neg, pP_inv, pP_not, pP_convInt, pP_convStr, pP_fieldAddr, pP_field, pP_indexAddr, pP_indexStr, pP_sliceStr, pP_sliceSl, pP_lenStr, pP_lenNil, pP_lenSl, pP_min, pP_max, pP_extract, pP_mkfn, bV_add, bV_sub, bV_mul, bV_quo, bV_rem, bV_and, bV_or, bV_xor, bV_andNot, bV_eql, bV_neq, bV_lss, bV_leq, bV_gtr, bV_geq, bV_shl, bV_shr, bV_str, eV_bool, eV_nn, eV_np, eV_pn, eV_snn, eV_sns, eV_ssn, eV_mnn, eV_mnm, eV_mmn, eV_fnn, eV_fnf, eV_ffn, eV_agg, rP_load, rP_lenNil, rP_str0, rdEl_K, rdK_row, aP_alloc, aP_box, aP_buildSlice, aP_makeSlice, aP_makeMap, aP_toBytes, hP_store, storeK_some, st_K, stK_row, stE_some, cells_agg, cells_bool, scalar_bool, cells_int, scalar_int, cells_str, scalar_str, cells_nilptr, scalar_nilptr, cells_ptr, scalar_ptr, cells_nilslice, scalar_nilslice, cells_slice, scalar_slice, cells_nilmap, scalar_nilmap, cells_map, scalar_map, cells_nilfunc, scalar_nilfunc, cells_func, scalar_func, eqCells, eqLeaf, run_toL, toL_some, ev_toL, getD_toL, put_toL, keep_toL, asc, fput_same, fput_ne, fbase_nil, fbase_cons, fkeep_nil, fkeep_cons, fzero, fnone, List.map_cons, List.map_nil, ev_lit, put_none, resVals, resVal, resOf, partV, fillA, putCells, fillEls, strBin, minV, optNat, appendEls, elsOf, sliceSlV, sliceStrV, List.replicate, List.getElem?_append_left, List.getElem?_append_right, List.set_append_left, List.set_append_right, List.getElem?_set_self, List.getElem?_set_ne, hq_get0, hq_get, hq_get2, hq_get3, hp_get0, hp_get, hp_get2, hp_get3, hp_set0, hp_set, hp_set2, hp_set3, wr_0, wr_1, wr_2, wr_3, wr_4, wr_n1, f0', f5', f9', gL, get_app gL, set_app gL, get_set_same gL, get_set_app gL, set_set_app gL, len_beq gL, beq_len gL, rL, get_app rL, set_app rL, get_set_same rL, get_set_app rL, set_set_app rL, len_beq rL, beq_len rL, oc, os, fin, fin0]
        have d2 : decide (p.seq - s.came ≤ 64) = true := dec_true h2
        have hgm2 : ((k0.set g G2).set m (.map (kents (s.kept ++ [(p.seq, p.x)]))))[g]? = some G2 := (List.getElem?_set_ne a.gm.symm).trans hgg
        have hmm2 : ((k0.set g G2).set m (.map (kents (s.kept ++ [(p.seq, p.x)]))))[m]? = some (.map (kents (s.kept ++ [(p.seq, p.x)]))) := get_set_same hmg
        have hrm2 : ((k0.set g G2).set m (.map (kents (s.kept ++ [(p.seq, p.x)]))))[k.length + 1]? = some (.row 25 [Pk.zero.av] true true) := (List.getElem?_set_ne (by omega)).trans hrg
        have hch3 : Chg (k0.set g G2) ((k0.set g G2).set m (.map (kents (s.kept ++ [(p.seq, p.x)])))) [m] := (Chg.refl _ _).set (.inl (by simp))
        have a3 : LinkAt ((k0.set g G2).set m (.map (kents (s.kept ++ [(p.seq, p.x)])))) g m w0 { s with waits := later p.ack s.waits, kept := s.kept ++ [(p.seq, p.x)] } :=
          ⟨by subst hG; exact hgm2, a2.ow.keep hch3 (by intro y hy; simp; rintro rfl; exact a2.mv hy), hmm2, a.gm, a2.gv, a2.mv⟩
        have ek : kents (s.kept ++ [(p.seq, p.x)]) = kents s.kept ++ [(.int .i64 p.seq, .agg p.x.av)] := by simp [kents]
        have hkp : s.keep p = s.kept ++ [(p.seq, p.x)] := by simp [Ls.keep, hf, d1, d2]
        rw [hkp] at fin
        simp only [Pk.av, Pk.zero, Lt.zero] at e26 hpb1 hrb1 e25 hrg hpg
        subst hG
        simp [sf12, yld_some, exec_reg, exec_dreg, exec_seq, exec_cond, exec_block, exec_scope, exec_exit, exec_ret, exec_skip, exec_loop, ops_nil, ops_cons, ops_cons_gd, stages_nil, stages_cons_n, stages_cons_h, recheck, wantsOp, AV.same, sames, evalOp_p, evalOp_r, evalOp_a, evalOp_call, evalOp_callV, evalOp_store, evalOp_append, evalOp_clear, evalOp_mapUpdate, evalOp_delete, pP_move, pP_pick, pP_build, pP_nil_ptr, pP_nil_func, pP_bin, pP_eq, pP_neg, pP_inv, pP_not, pP_convInt, pP_convStr, pP_fieldAddr, pP_field, pP_indexAddr, pP_indexStr, pP_sliceStr, pP_sliceSl, pP_lenStr, pP_lenNil, pP_lenSl, pP_min, pP_max, pP_extract, pP_mkfn, bV_add, bV_sub, bV_mul, bV_quo, bV_rem, bV_and, bV_or, bV_xor, bV_andNot, bV_eql, bV_neq, bV_lss, bV_leq, bV_gtr, bV_geq, bV_shl, bV_shr, bV_str, eV_bool, eV_nn, eV_np, eV_pn, eV_snn, eV_sns, eV_ssn, eV_mnn, eV_mnm, eV_mmn, eV_fnn, eV_fnf, eV_ffn, eV_agg, rP_load, rP_lenNil, rP_str0, rdEl_K, rdK_row, aP_alloc, aP_box, aP_buildSlice, aP_makeSlice, aP_makeMap, aP_toBytes, hP_store, storeK_some, st_K, stK_row, stE_some, cells_agg, cells_bool, scalar_bool, cells_int, scalar_int, cells_str, scalar_str, cells_nilptr, scalar_nilptr, cells_ptr, scalar_ptr, cells_nilslice, scalar_nilslice, cells_slice, scalar_slice, cells_nilmap, scalar_nilmap, cells_map, scalar_map, cells_nilfunc, scalar_nilfunc, cells_func, scalar_func, eqCells, eqLeaf, run_toL, toL_some, ev_toL, getD_toL, put_toL, keep_toL, asc, fput_same, fput_ne, fbase_nil, fbase_cons, fkeep_nil, fkeep_cons, fzero, fnone, List.map_cons, List.map_nil, ev_lit, put_none, resVals, resVal, resOf, partV, fillA, putCells, fillEls, strBin, minV, optNat, appendEls, elsOf, sliceSlV, sliceStrV, List.replicate, List.getElem?_append_left, List.getElem?_append_right, List.set_append_left, List.set_append_right, List.getElem?_set_self, List.getElem?_set_ne, hq_get0, hq_get, hq_get2, hq_get3, hp_get0, hp_get, hp_get2, hp_get3, hp_set0, hp_set, hp_set2, hp_set3, wr_0, wr_1, wr_2, wr_3, wr_4, wr_n1, hg, get_app hg, set_app hg, get_set_same hg, get_set_app hg, set_set_app hg, len_beq hg, beq_len hg, hg1, get_app hg1, set_app hg1, get_set_same hg1, get_set_app hg1, set_set_app hg1, len_beq hg1, beq_len hg1, hpb1, get_app hpb1, set_app hpb1, get_set_same hpb1, get_set_app hpb1, set_set_app hpb1, len_beq hpb1, beq_len hpb1, hrb1, get_app hrb1, set_app hrb1, get_set_same hrb1, get_set_app hrb1, set_set_app hrb1, len_beq hrb1, beq_len hrb1, hrg, get_app hrg, set_app hrg, get_set_same hrg, get_set_app hrg, set_set_app hrg, len_beq hrg, beq_len hrg, hpg, get_app hpg, set_app hpg, get_set_same hpg, get_set_app hpg, set_set_app hpg, len_beq hpg, beq_len hpg, hgg, get_app hgg, set_app hgg, get_set_same hgg, get_set_app hgg, set_set_app hgg, len_beq hgg, beq_len hgg, hmg, get_app hmg, set_app hmg, get_set_same hmg, get_set_app hmg, set_set_app hmg, len_beq hmg, beq_len hmg, Pk.av, Lt.av, e25, e26, e2_28, ex2, ltOf, ho1.cells, ho1.scalar, b0, rP_lookup, lookK_k, hf, d1, ws, d2, hP_update, updK_k hf]
        simp only [ek, Lt.av] at a3 hrm2 hch3
        repeat (first | apply yld_endFn | apply yld_seqK | apply yld_blockK | apply yld_regK | apply yld_opsK | apply yld_putK | apply yld_stgK | apply yld_chkK)
        refine loop_got (by simp [sf12, loopsIn]) (s := { s with waits := later p.ack s.waits, kept := s.kept ++ [(p.seq, p.x)] }) (a3.keep (Chg.app _ _ []) (by simp) (by simp) (by simp)) rfl rfl rfl (by simp; omega) hc (get_app hrm2) (by omega) (by omega) (fun h => hrv (hft1 _ h)) ?_
        intro f' kk' vo f0' f5' f9' aL oL chL foL
        have gL := aL.gd
        have rL := chL.2 (k.length + 1) _ (by simp; omega) (get_app hrm2)
        have oc := oL.cells
        have os := oL.scalar
        have fin := fun z => fin _ kk' vo z ((hch3.mono (by simp)).more) aL oL chL foL
        simp only [Pk.av, Pk.zero, Lt.zero] at rL fin
        have fin0 := fin []
        simp only [List.append_nil] at fin0
        simp [yld_some, exec_reg, exec_dreg, exec_seq, exec_cond, exec_block, exec_scope, exec_exit, exec_ret, exec_skip, exec_loop, ops_nil, ops_cons, ops_cons_gd, stages_nil, stages_cons_n, stages_cons_h, recheck, wantsOp, AV.same, sames, evalOp_p, evalOp_r, evalOp_a, evalOp_call, evalOp_callV, evalOp_store, evalOp_append, evalOp_clear, evalOp_mapUpdate, evalOp_delete, pP_move, pP_pick, pP_build, pP_nil_ptr, pP_nil_func, pP_bin, pP_eq, pP_neg, pP_inv, pP_not, pP_convInt, pP_convStr, pP_fieldAddr, pP_field, pP_indexAddr, pP_indexStr, pP_sliceStr, pP_sliceSl, pP_lenStr, pP_lenNil, pP_lenSl, pP_min, pP_max, pP_extract, pP_mkfn, bV_add, bV_sub, bV_mul, bV_quo, bV_rem, bV_and, bV_or, bV_xor, bV_andNot, bV_eql, bV_neq, bV_lss, bV_leq, bV_gtr, bV_geq, bV_shl, bV_shr, bV_str, eV_bool, eV_nn, eV_np, eV_pn, eV_snn, eV_sns, eV_ssn, eV_mnn, eV_mnm, eV_mmn, eV_fnn, eV_fnf, eV_ffn, eV_agg, rP_load, rP_lenNil, rP_str0, rdEl_K, rdK_row, aP_alloc, aP_box, aP_buildSlice, aP_makeSlice, aP_makeMap, aP_toBytes, hP_store, storeK_some, st_K, stK_row, stE_some, cells_agg, cells_bool, scalar_bool, cells_int, scalar_int, cells_str, scalar_str, cells_nilptr, scalar_nilptr, cells_ptr, scalar_ptr, cells_nilslice, scalar_nilslice, cells_slice, scalar_slice, cells_nilmap, scalar_nilmap, cells_map, scalar_map, cells_nilfunc, scalar_nilfunc, cells_func, scalar_func, eqCells, eqLeaf, run_toL, toL_some, ev_toL, getD_toL, put_toL, keep_toL, asc, fput_same, fput_ne, fbase_nil, fbase_cons, fkeep_nil, fkeep_cons, fzero, fnone, List.map_cons, List.map_nil, ev_lit, put_none, resVals, resVal, resOf, partV, fillA, putCells, fillEls, strBin, minV, optNat, appendEls, elsOf, sliceSlV, sliceStrV, List.replicate, List.getElem?_append_left, List.getElem?_append_right, List.set_append_left, List.set_append_right, List.getElem?_set_self, List.getElem?_set_ne, hq_get0, hq_get, hq_get2, hq_get3, hp_get0, hp_get, hp_get2, hp_get3, hp_set0, hp_set, hp_set2, hp_set3, wr_0, wr_1, wr_2, wr_3, wr_4, wr_n1, f0', f5', f9', gL, get_app gL, set_app gL, get_set_same gL, get_set_app gL, set_set_app gL, len_beq gL, beq_len gL, rL, get_app rL, set_app rL, get_set_same rL, get_set_app rL, set_set_app rL, len_beq rL, beq_len rL, oc, os, fin, fin0]
        simpa using fin0
end Go.Proofs.Ytmbkklobijflkaa.Lk
