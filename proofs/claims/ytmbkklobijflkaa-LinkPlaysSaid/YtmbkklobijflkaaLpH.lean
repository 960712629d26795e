/- Link, with a book beside: a packet comes whose letter has items. (written by mkh.py) -/
import Derived.Test.YtmbkklobijflkaaLpG
set_option maxRecDepth 100000
set_option linter.unusedVariables false
set_option linter.unusedSimpArgs false
namespace Go.Proofs.Ytmbkklobijflkaa.Lp
open Go Go.Eng F Lk Bk BkI

/-- z: the copy of the packet's letter, with these items. -/
def GotQ (k : H) (g m : Nat) (v : AV) (s : Ls) (p : Pv) (X1 X2 : List It) (r : AV × H) : Prop :=
  ∃ z vo v', r.1 = .tuple [vo, .agg (s.got p z).2.2.1.av, .bool (s.got p z).2.2.2] ∧ LinkAt r.2 g m v' (s.got p z).1 ∧ OwnE r.2 21 vo (lts (s.got p z).2.1) ∧ Chg k r.2 (g :: m :: foot v) ∧ (∀ c ∈ foot v', c ∈ foot v) ∧ (∀ c ∈ foot vo, k.length ≤ c) ∧
    z.x = p.y.x ∧ RdS r.2 2 z.s1.av (its X1) ∧ RdS r.2 2 z.s2.av (its X2) ∧ ∀ c, c ∈ foot0 z.s1.av ∨ c ∈ foot0 z.s2.av → (c ∈ foot0 p.y.s1.av ∨ c ∈ foot0 p.y.s2.av) ∨ (k.length ≤ c ∧ c ∉ foot vo)

set_option maxHeartbeats 8000000 in
theorem got_call {k : H} {g m : Nat} {v : AV} {s : Ls} (a : LinkAt k g m v s) (hlen : s.waits.length < 4294967296) (hkl : s.kept.length < 4294967295) (hc : 0 ≤ s.came ∧ s.came < 4611686018427387904) (p : Pv) (hp : p.seq ≤ 9223372036854775807) {X1 X2 : List It} (hp1 : RdS k 2 p.y.s1.av (its X1)) (hp2 : RdS k 2 p.y.s2.av (its X2)) (l1 : X1.length * 48 ≤ 281474976710656) (l2 : X2.length * 48 ≤ 281474976710656) (hpf : ∀ c, c ∈ foot0 p.y.s1.av ∨ c ∈ foot0 p.y.s2.av → c ∉ g :: m :: foot v) :
    Yld (call Lp.fs3 Lp.ex3 12 [.ptr g 0 0, .agg p.av] k) (GotQ k g m v s p X1 X2) := by
  refine yld_shut fun Q hQ => ?_
  rw [call_eq Lp.fs3 Lp.ex3 (f := 12) (sf := sf12) rfl]
  have hgl := (List.getElem?_eq_some_iff.1 a.gd).1
  have hml := (List.getElem?_eq_some_iff.1 a.mp).1
  have hg := a.gd
  have hm := a.mp
  cases hmay : s.may p
  · have e25 : ∀ z, call Lp.fs3 Lp.ex3 25 [.ptr g 0 0, .agg p.av] (k ++ z) = some (.bool false, k ++ z) := by
      intro z
      rw [e2_25]
      have : pvOf p.av = some p := pvOf_av p
      simp only [ex2, this, get_app hg]
      rw [← hmay]; rfl
    unfold Pv.av at e25
    simp [sf12, yld_some, exec_reg, exec_dreg, exec_seq, exec_cond, exec_block, exec_scope, exec_exit, exec_ret, exec_skip, exec_loop, ops_nil, ops_cons, ops_cons_gd, stages_nil, stages_cons_n, stages_cons_h, recheck, wantsOp, AV.same, sames, evalOp_p, evalOp_r, evalOp_a, evalOp_call, evalOp_callV, evalOp_store, evalOp_append, evalOp_clear, evalOp_mapUpdate, evalOp_delete, pP_move, pP_pick, pP_build, pP_nil_ptr, pP_nil_func, pP_bin, pP_eq, pP_neg, pP_inv, pP_not, pP_convInt, pP_convStr, pP_fieldAddr, pP_field, pP_indexAddr, pP_indexStr, pP_sliceStr, pP_sliceSl, pP_lenStr, pP_lenNil, pP_lenSl, pP_min, pP_max, pP_extract, pP_mkfn, bV_add, bV_sub, bV_mul, bV_quo, bV_rem, bV_and, bV_or, bV_xor, bV_andNot, bV_eql, bV_neq, bV_lss, bV_leq, bV_gtr, bV_geq, bV_shl, bV_shr, bV_str, eV_bool, eV_nn, eV_np, eV_pn, eV_snn, eV_sns, eV_ssn, eV_mnn, eV_mnm, eV_mmn, eV_fnn, eV_fnf, eV_ffn, eV_agg, rP_load, rP_lenNil, rP_str0, rdEl_K, rdK_row, aP_alloc, aP_box, aP_buildSlice, aP_makeSlice, aP_makeMap, aP_toBytes, hP_store, storeK_some, st_K, stK_row, stE_some, cells_agg, cells_bool, scalar_bool, cells_int, scalar_int, cells_str, scalar_str, cells_nilptr, scalar_nilptr, cells_ptr, scalar_ptr, cells_nilslice, scalar_nilslice, cells_slice, scalar_slice, cells_nilmap, scalar_nilmap, cells_map, scalar_map, cells_nilfunc, scalar_nilfunc, cells_func, scalar_func, eqCells, eqLeaf, run_toL, toL_some, ev_toL, getD_toL, put_toL, keep_toL, asc, fput_same, fput_ne, fbase_nil, fbase_cons, fkeep_nil, fkeep_cons, fzero, fnone, List.map_cons, List.map_nil, ev_lit, put_none, resVals, resVal, resOf, partV, fillA, putCells, fillEls, strBin, minV, optNat, appendEls, elsOf, sliceSlV, sliceStrV, List.replicate, List.getElem?_append_left, List.getElem?_append_right, List.set_append_left, List.set_append_right, List.getElem?_set_self, List.getElem?_set_ne, hq_get0, hq_get, hq_get2, hq_get3, hp_get0, hp_get, hp_get2, hp_get3, hp_set0, hp_set, hp_set2, hp_set3, wr_0, wr_1, wr_2, wr_3, wr_4, wr_n1, hg, get_app hg, set_app hg, get_set_same hg, get_set_app hg, set_set_app hg, len_beq hg, beq_len hg, Pv.av, sv_cells, sv_scalar, sv_same, e25]
    refine hQ _ ⟨p.y, .nilslice, v, ?_, ?_, .inl ⟨rfl, ?_⟩, Chg.app _ _ _, fun _ h => h, by simp [foot], rfl, rds_app hp1, rds_app hp2, fun c hc => .inl hc⟩
    · simp [Ls.got, hmay, Pk.av, Pk.zero, Lt.zero]
    · simp only [Ls.got, hmay, if_true]; exact a.keep (Chg.app k _ []) (by simp) (by simp) (by simp)
    · simp [Ls.got, hmay, lts]
  · have e25 : ∀ z, call Lp.fs3 Lp.ex3 25 [.ptr g 0 0, .agg p.av] (k ++ z) = some (.bool true, k ++ z) := by
      intro z
      rw [e2_25]
      have : pvOf p.av = some p := pvOf_av p
      simp only [ex2, this, get_app hg]
      rw [← hmay]; rfl
    have a1 := a.keep (Chg.app k [.row 25 [p.av] true true, .row 25 [Pk.zero.av] true true] []) (by simp) (by simp) (by simp)
    have hpv : k.length ∉ foot v := fun h => by have := a.ow.lt _ h; omega
    have hrv : k.length + 1 ∉ foot v := fun h => by have := a.ow.lt _ h; omega
    obtain ⟨⟨w0, k0⟩, e26, k1, v1, hr, ho1, hch1, hft1⟩ := delete_call a1.ow hlen (pb := k.length) (p := p) (by simp) hpv
    cases hr
    have hg1 := hch1.2 g _ a1.gv a1.gd
    have hm1 := hch1.2 m _ a1.mv a1.mp
    have hpb1 := hch1.2 k.length _ hpv (show (k ++ [Blk.row 25 [p.av] true true, Blk.row 25 [Pk.zero.av] true true])[k.length]? = some (.row 25 [p.av] true true) by simp)
    have hrb1 := hch1.2 (k.length + 1) _ hrv (show (k ++ [Blk.row 25 [p.av] true true, Blk.row 25 [Pk.zero.av] true true])[k.length + 1]? = some (.row 25 [Pk.zero.av] true true) by simp)
    have hne1 : k.length ≠ g := by omega
    have hne2 : k.length + 1 ≠ g := by omega
    have hft : ∀ z, z ∉ foot v → z ∉ foot w0 := fun z h1 h2 => h1 (hft1 z h2)
    generalize hG : Blk.row 7 [[AV.int .i64 s.me, .int .i64 s.peer, .int .i64 s.now, .int .i64 s.out, w0, .int .i64 s.came, .map m]] true true = G2
    have hmg : (k0.set g G2)[m]? = some (.map (kents s.kept)) := (List.getElem?_set_ne a.gm).trans hm1
    have hrg : (k0.set g G2)[k.length + 1]? = some (.row 25 [Pk.zero.av] true true) := (List.getElem?_set_ne (by omega)).trans hrb1
    have hpg : (k0.set g G2)[k.length]? = some (.row 25 [p.av] true true) := (List.getElem?_set_ne (by omega)).trans hpb1
    have hgg : (k0.set g G2)[g]? = some G2 := get_set_same hg1
    have hch0 : Chg k (k0.set g G2) (g :: m :: foot v) := ((Chg.app k _ (g :: m :: foot v)).trans hch1 (fun c hc => .inl (by simp [hc]))).set (.inl (by simp))
    have a2 : LinkAt (k0.set g G2) g m w0 { s with waits := later p.ack s.waits } := by
      subst hG
      exact ⟨hgg, ho1.keep ((Chg.refl _ [g]).set (.inl (by simp))) (by intro y hy; simp; rintro rfl; exact hft _ a.gv hy), hmg, a.gm, hft _ a.gv, hft _ a.mv⟩
    by_cases hs0 : p.seq = 0
    · have b0 : (p.seq == 0) = true := beq_true hs0
      simp only [Pv.av, Pk.av, Pk.zero, Lt.zero] at e26 hpb1 hrb1 e25 hrg hpg
      subst hG
      simp [sf12, yld_some, exec_reg, exec_dreg, exec_seq, exec_cond, exec_block, exec_scope, exec_exit, exec_ret, exec_skip, exec_loop, ops_nil, ops_cons, ops_cons_gd, stages_nil, stages_cons_n, stages_cons_h, recheck, wantsOp, AV.same, sames, evalOp_p, evalOp_r, evalOp_a, evalOp_call, evalOp_callV, evalOp_store, evalOp_append, evalOp_clear, evalOp_mapUpdate, evalOp_delete, pP_move, pP_pick, pP_build, pP_nil_ptr, pP_nil_func, pP_bin, pP_eq, pP_neg, pP_inv, pP_not, pP_convInt, pP_convStr, pP_fieldAddr, pP_field, pP_indexAddr, pP_indexStr, pP_sliceStr, pP_sliceSl, pP_lenStr, pP_lenNil, pP_lenSl, pP_min, pP_max, pP_extract, pP_mkfn, bV_add, bV_sub, bV_mul, bV_quo, bV_rem, bV_and, bV_or, bV_xor, bV_andNot, bV_eql, bV_neq, bV_lss, bV_leq, bV_gtr, bV_geq, bV_shl, bV_shr, bV_str, eV_bool, eV_nn, eV_np, eV_pn, eV_snn, eV_sns, eV_ssn, eV_mnn, eV_mnm, eV_mmn, eV_fnn, eV_fnf, eV_ffn, eV_agg, rP_load, rP_lenNil, rP_str0, rdEl_K, rdK_row, aP_alloc, aP_box, aP_buildSlice, aP_makeSlice, aP_makeMap, aP_toBytes, hP_store, storeK_some, st_K, stK_row, stE_some, cells_agg, cells_bool, scalar_bool, cells_int, scalar_int, cells_str, scalar_str, cells_nilptr, scalar_nilptr, cells_ptr, scalar_ptr, cells_nilslice, scalar_nilslice, cells_slice, scalar_slice, cells_nilmap, scalar_nilmap, cells_map, scalar_map, cells_nilfunc, scalar_nilfunc, cells_func, scalar_func, eqCells, eqLeaf, run_toL, toL_some, ev_toL, getD_toL, put_toL, keep_toL, asc, fput_same, fput_ne, fbase_nil, fbase_cons, fkeep_nil, fkeep_cons, fzero, fnone, List.map_cons, List.map_nil, ev_lit, put_none, resVals, resVal, resOf, partV, fillA, putCells, fillEls, strBin, minV, optNat, appendEls, elsOf, sliceSlV, sliceStrV, List.replicate, List.getElem?_append_left, List.getElem?_append_right, List.set_append_left, List.set_append_right, List.getElem?_set_self, List.getElem?_set_ne, hq_get0, hq_get, hq_get2, hq_get3, hp_get0, hp_get, hp_get2, hp_get3, hp_set0, hp_set, hp_set2, hp_set3, wr_0, wr_1, wr_2, wr_3, wr_4, wr_n1, hg, get_app hg, set_app hg, get_set_same hg, get_set_app hg, set_set_app hg, len_beq hg, beq_len hg, hg1, get_app hg1, set_app hg1, get_set_same hg1, get_set_app hg1, set_set_app hg1, len_beq hg1, beq_len hg1, hpb1, get_app hpb1, set_app hpb1, get_set_same hpb1, get_set_app hpb1, set_set_app hpb1, len_beq hpb1, beq_len hpb1, hrb1, get_app hrb1, set_app hrb1, get_set_same hrb1, get_set_app hrb1, set_set_app hrb1, len_beq hrb1, beq_len hrb1, hrg, get_app hrg, set_app hrg, get_set_same hrg, get_set_app hrg, set_set_app hrg, len_beq hrg, beq_len hrg, hpg, get_app hpg, set_app hpg, get_set_same hpg, get_set_app hpg, set_set_app hpg, len_beq hpg, beq_len hpg, hgg, get_app hgg, set_app hgg, get_set_same hgg, get_set_app hgg, set_set_app hgg, len_beq hgg, beq_len hgg, Pv.av, Pk.av, sv_cells, sv_scalar, sv_same, e25, e26, ho1.cells, ho1.scalar, b0]
      refine hQ _ ⟨p.y, .nilslice, w0, ?_, ?_, .inl ⟨rfl, ?_⟩, ?_, hft1, by simp [foot], rfl, ?_, ?_, fun c hc => .inl hc⟩
      · simp [Ls.got, hmay, hs0, Pk.av, Pk.zero, Lt.zero]
      · have : (s.got p p.y).1 = { s with waits := later p.ack s.waits } := by simp [Ls.got, hmay, hs0]
        rw [this]
        exact a2.keep ((Chg.refl _ [k.length + 1]).set (.inl (by simp))) (by simp; omega) (by simp; omega) (by intro y hy; simp; rintro rfl; exact hrv (hft1 _ hy))
      · simp [Ls.got, hmay, hs0, lts]
      · exact hch0.set (.inr (by omega))
      · exact hp1.keep0 (hch0.set (.inr (by omega))) (fun c hc => hpf c (.inl hc))
      · exact hp2.keep0 (hch0.set (.inr (by omega))) (fun c hc => hpf c (.inr hc))
    · have b0 : (p.seq == 0) = false := beq_false hs0
      have wsub : s.came < p.seq → IntKind.i64.wrap (p.seq - s.came) = p.seq - s.came := fun h => wrap_i64 (by omega) (by omega)
      have hgot : ∀ z, s.got p z = ({ s with waits := later p.ack s.waits, came := (drain (s.keep p z).length s.came (s.keep p z)).1, kept := (drain (s.keep p z).length s.came (s.keep p z)).2.1 }, (drain (s.keep p z).length s.came (s.keep p z)).2.2, ⟨s.me, s.peer, 0, (drain (s.keep p z).length s.came (s.keep p z)).1, Lt.zero⟩, true) := by
        intro z
        simp [Ls.got, hmay, hs0]
      have hlen1 : k.length + 2 ≤ (k0.set g G2).length := by
        have := hch1.1
        simp at this ⊢; exact this
      have hpk : ∀ c, c ∈ foot0 p.y.s1.av ∨ c ∈ foot0 p.y.s2.av → c < k.length := fun c hc => hc.elim (hp1.lt0 c) (hp2.lt0 c)
      have hzp : ∀ kk kk', Chg (k0.set g G2) kk [g, m] → Chg kk kk' [g, m] → RdS kk' 2 p.y.s1.av (its X1) ∧ RdS kk' 2 p.y.s2.av (its X2) ∧ ∀ c, c ∈ foot0 p.y.s1.av ∨ c ∈ foot0 p.y.s2.av → c ≠ k.length + 1 ∧ c < kk.length ∧ ((c ∈ foot0 p.y.s1.av ∨ c ∈ foot0 p.y.s2.av) ∨ k.length ≤ c) := fun kk kk' c1 c2 => by
        have cc : Chg k kk' (g :: m :: foot v) := (hch0.trans c1 (fun c hc => .inl (by simp at hc ⊢; rcases hc with h | h <;> simp [h]))).trans c2 (fun c hc => .inl (by simp at hc ⊢; rcases hc with h | h <;> simp [h]))
        exact ⟨hp1.keep0 cc (fun c hc => hpf c (.inl hc)), hp2.keep0 cc (fun c hc => hpf c (.inr hc)), fun c hc => ⟨by have := hpk c hc; omega, by have := hpk c hc; have := c1.1; omega, .inl hc⟩⟩
      have fin0 : ∀ (z : Lv) (kk kk' : H) (vo : AV) (zz : H), Chg (k0.set g G2) kk [g, m] → LinkAt kk' g m w0 { s with waits := later p.ack s.waits, came := (drain (s.keep p z).length s.came (s.keep p z)).1, kept := (drain (s.keep p z).length s.came (s.keep p z)).2.1 } →
          OwnE kk' 21 vo (lts (drain (s.keep p z).length s.came (s.keep p z)).2.2) → Chg kk kk' [g, m] → (∀ c ∈ foot vo, kk.length ≤ c) → z.x = p.y.x → (RdS kk' 2 z.s1.av (its X1) ∧ RdS kk' 2 z.s2.av (its X2) ∧ ∀ c, c ∈ foot0 z.s1.av ∨ c ∈ foot0 z.s2.av → c ≠ k.length + 1 ∧ c < kk.length ∧ ((c ∈ foot0 p.y.s1.av ∨ c ∈ foot0 p.y.s2.av) ∨ k.length ≤ c)) →
          Q (.tuple [vo, .agg (Pk.av ⟨s.me, s.peer, 0, (drain (s.keep p z).length s.came (s.keep p z)).1, Lt.zero⟩), .bool true], kk'.set (k.length + 1) (.row 25 [Pk.av ⟨s.me, s.peer, 0, (drain (s.keep p z).length s.came (s.keep p z)).1, Lt.zero⟩] true true) ++ zz) := by
        intro z kk kk' vo zz hc1 aL oL hc2 hfo hzx hz
        obtain ⟨hz1, hz2, hz3⟩ := hz
        have hcr : Chg kk' (kk'.set (k.length + 1) (.row 25 [Pk.av ⟨s.me, s.peer, 0, (drain (s.keep p z).length s.came (s.keep p z)).1, Lt.zero⟩] true true) ++ zz) [k.length + 1] := ((Chg.refl _ _).set (.inl (by simp))).more
        have hvo : ∀ c ∈ foot vo, k.length + 2 ≤ c := fun c hc => by have h1 := hfo c hc; have := hc1.1; omega
        refine hQ _ ⟨z, vo, w0, ?_, ?_, ?_, ?_, hft1, fun c hc => by have := hvo c hc; omega, hzx, hz1.keep0 hcr (fun c hc => by have := (hz3 c (.inl hc)).1; simpa using this), hz2.keep0 hcr (fun c hc => by have := (hz3 c (.inr hc)).1; simpa using this), fun c hc => ?_⟩
        · rw [hgot]
        · rw [hgot]
          exact aL.keep hcr (by simp; omega) (by simp; omega) (by intro y hy; simp; rintro rfl; exact hrv (hft1 _ hy))
        · rw [hgot]
          exact oL.keep hcr (by intro y hy; simp; have := hvo y hy; omega)
        · exact ((hch0.trans hc1 (fun c hc => .inl (by simp at hc ⊢; rcases hc with h | h <;> simp [h]))).trans hc2 (fun c hc => .inl (by simp at hc ⊢; rcases hc with h | h <;> simp [h]))).trans hcr (fun c hc => .inr (by simp at hc; omega))
        · obtain ⟨q1, q2, q3⟩ := hz3 c hc
          rcases q3 with q3 | q3
          · exact .inl q3
          · exact .inr ⟨q3, fun hm => by have := hfo c hm; omega⟩
      cases hf : findK p.seq s.kept with
      | some r =>
        obtain ⟨i, x0⟩ := r
        have hkp : s.keep p p.y = s.kept := by simp [Ls.keep, hf]
        have fin := fin0 p.y
        rw [hkp] at fin
        simp only [Pv.av, Pk.av, Pk.zero, Lt.zero] at e26 hpb1 hrb1 e25 hrg hpg
        subst hG
        simp [sf12, yld_some, exec_reg, exec_dreg, exec_seq, exec_cond, exec_block, exec_scope, exec_exit, exec_ret, exec_skip, exec_loop, ops_nil, ops_cons, ops_cons_gd, stages_nil, stages_cons_n, stages_cons_h, recheck, wantsOp, AV.same, sames, evalOp_p, evalOp_r, evalOp_a, evalOp_call, evalOp_callV, evalOp_store, evalOp_append, evalOp_clear, evalOp_mapUpdate, evalOp_delete, pP_move, pP_pick, pP_build, pP_nil_ptr, pP_nil_func, pP_bin, pP_eq, pP_neg, pP_inv, pP_not, pP_convInt, pP_convStr, pP_fieldAddr, pP_field, pP_indexAddr, pP_indexStr, pP_sliceStr, pP_sliceSl, pP_lenStr, pP_lenNil, pP_lenSl, pP_min, pP_max, pP_extract, pP_mkfn, bV_add, bV_sub, bV_mul, bV_quo, bV_rem, bV_and, bV_or, bV_xor, bV_andNot, bV_eql, bV_neq, bV_lss, bV_leq, bV_gtr, bV_geq, bV_shl, bV_shr, bV_str, eV_bool, eV_nn, eV_np, eV_pn, eV_snn, eV_sns, eV_ssn, eV_mnn, eV_mnm, eV_mmn, eV_fnn, eV_fnf, eV_ffn, eV_agg, rP_load, rP_lenNil, rP_str0, rdEl_K, rdK_row, aP_alloc, aP_box, aP_buildSlice, aP_makeSlice, aP_makeMap, aP_toBytes, hP_store, storeK_some, st_K, stK_row, stE_some, cells_agg, cells_bool, scalar_bool, cells_int, scalar_int, cells_str, scalar_str, cells_nilptr, scalar_nilptr, cells_ptr, scalar_ptr, cells_nilslice, scalar_nilslice, cells_slice, scalar_slice, cells_nilmap, scalar_nilmap, cells_map, scalar_map, cells_nilfunc, scalar_nilfunc, cells_func, scalar_func, eqCells, eqLeaf, run_toL, toL_some, ev_toL, getD_toL, put_toL, keep_toL, asc, fput_same, fput_ne, fbase_nil, fbase_cons, fkeep_nil, fkeep_cons, fzero, fnone, List.map_cons, List.map_nil, ev_lit, put_none, resVals, resVal, resOf, partV, fillA, putCells, fillEls, strBin, minV, optNat, appendEls, elsOf, sliceSlV, sliceStrV, List.replicate, List.getElem?_append_left, List.getElem?_append_right, List.set_append_left, List.set_append_right, List.getElem?_set_self, List.getElem?_set_ne, hq_get0, hq_get, hq_get2, hq_get3, hp_get0, hp_get, hp_get2, hp_get3, hp_set0, hp_set, hp_set2, hp_set3, wr_0, wr_1, wr_2, wr_3, wr_4, wr_n1, hg, get_app hg, set_app hg, get_set_same hg, get_set_app hg, set_set_app hg, len_beq hg, beq_len hg, hg1, get_app hg1, set_app hg1, get_set_same hg1, get_set_app hg1, set_set_app hg1, len_beq hg1, beq_len hg1, hpb1, get_app hpb1, set_app hpb1, get_set_same hpb1, get_set_app hpb1, set_set_app hpb1, len_beq hpb1, beq_len hpb1, hrb1, get_app hrb1, set_app hrb1, get_set_same hrb1, get_set_app hrb1, set_set_app hrb1, len_beq hrb1, beq_len hrb1, hrg, get_app hrg, set_app hrg, get_set_same hrg, get_set_app hrg, set_set_app hrg, len_beq hrg, beq_len hrg, hpg, get_app hpg, set_app hpg, get_set_same hpg, get_set_app hpg, set_set_app hpg, len_beq hpg, beq_len hpg, hgg, get_app hgg, set_app hgg, get_set_same hgg, get_set_app hgg, set_set_app hgg, len_beq hgg, beq_len hgg, hmg, get_app hmg, set_app hmg, get_set_same hmg, get_set_app hmg, set_set_app hmg, len_beq hmg, beq_len hmg, Pv.av, Lv.av, sv_cells, sv_scalar, sv_same, e25, e26, ho1.cells, ho1.scalar, b0, rP_lookup, lookK_k, hf]
        repeat (first | apply yld_endFn | apply yld_seqK | apply yld_blockK | apply yld_regK | apply yld_opsK | apply yld_putK | apply yld_stgK | apply yld_chkK)
        refine loop_got (by simp [sf12, loopsIn]) (s := { s with waits := later p.ack s.waits, kept := s.kept }) (a2.keep (Chg.app _ _ []) (by simp) (by simp) (by simp)) rfl rfl rfl (by simp; omega) hc (get_app hrg) (by omega) (by omega) (fun h => hrv (hft1 _ h)) ?_
        intro f' kk' vo f0' f5' f9' aL oL chL foL
        have gL := aL.gd
        have rL := chL.2 (k.length + 1) _ (by simp; omega) (get_app hrg)
        have oc := oL.rds.cells.1
        have os := oL.rds.cells.2.1
        have fin := fun zz => fin _ kk' vo zz (Chg.app _ _ _) aL oL chL foL rfl (hzp _ kk' (Chg.app _ _ _) chL)
        simp only [Pk.av, Pk.zero, Lt.zero] at rL fin
        have fin0 := fin []
        simp only [List.append_nil] at fin0
        simp [yld_some, exec_reg, exec_dreg, exec_seq, exec_cond, exec_block, exec_scope, exec_exit, exec_ret, exec_skip, exec_loop, ops_nil, ops_cons, ops_cons_gd, stages_nil, stages_cons_n, stages_cons_h, recheck, wantsOp, AV.same, sames, evalOp_p, evalOp_r, evalOp_a, evalOp_call, evalOp_callV, evalOp_store, evalOp_append, evalOp_clear, evalOp_mapUpdate, evalOp_delete, pP_move, pP_pick, pP_build, pP_nil_ptr, pP_nil_func, pP_bin, pP_eq, pP_neg, pP_inv, pP_not, pP_convInt, pP_convStr, pP_fieldAddr, pP_field, pP_indexAddr, pP_indexStr, pP_sliceStr, pP_sliceSl, pP_lenStr, pP_lenNil, pP_lenSl, pP_min, pP_max, pP_extract, pP_mkfn, bV_add, bV_sub, bV_mul, bV_quo, bV_rem, bV_and, bV_or, bV_xor, bV_andNot, bV_eql, bV_neq, bV_lss, bV_leq, bV_gtr, bV_geq, bV_shl, bV_shr, bV_str, eV_bool, eV_nn, eV_np, eV_pn, eV_snn, eV_sns, eV_ssn, eV_mnn, eV_mnm, eV_mmn, eV_fnn, eV_fnf, eV_ffn, eV_agg, rP_load, rP_lenNil, rP_str0, rdEl_K, rdK_row, aP_alloc, aP_box, aP_buildSlice, aP_makeSlice, aP_makeMap, aP_toBytes, hP_store, storeK_some, st_K, stK_row, stE_some, cells_agg, cells_bool, scalar_bool, cells_int, scalar_int, cells_str, scalar_str, cells_nilptr, scalar_nilptr, cells_ptr, scalar_ptr, cells_nilslice, scalar_nilslice, cells_slice, scalar_slice, cells_nilmap, scalar_nilmap, cells_map, scalar_map, cells_nilfunc, scalar_nilfunc, cells_func, scalar_func, eqCells, eqLeaf, run_toL, toL_some, ev_toL, getD_toL, put_toL, keep_toL, asc, fput_same, fput_ne, fbase_nil, fbase_cons, fkeep_nil, fkeep_cons, fzero, fnone, List.map_cons, List.map_nil, ev_lit, put_none, resVals, resVal, resOf, partV, fillA, putCells, fillEls, strBin, minV, optNat, appendEls, elsOf, sliceSlV, sliceStrV, List.replicate, List.getElem?_append_left, List.getElem?_append_right, List.set_append_left, List.set_append_right, List.getElem?_set_self, List.getElem?_set_ne, hq_get0, hq_get, hq_get2, hq_get3, hp_get0, hp_get, hp_get2, hp_get3, hp_set0, hp_set, hp_set2, hp_set3, wr_0, wr_1, wr_2, wr_3, wr_4, wr_n1, f0', f5', f9', gL, get_app gL, set_app gL, get_set_same gL, get_set_app gL, set_set_app gL, len_beq gL, beq_len gL, rL, get_app rL, set_app rL, get_set_same rL, get_set_app rL, set_set_app rL, len_beq rL, beq_len rL, oc, os, fin, fin0]
      | none =>
        by_cases h1 : s.came < p.seq
        rotate_left
        · have d1 : decide (s.came < p.seq) = false := dec_false h1
          have hkp : s.keep p p.y = s.kept := by simp [Ls.keep, hf, d1]
          have fin := fin0 p.y
          rw [hkp] at fin
          simp only [Pv.av, Pk.av, Pk.zero, Lt.zero] at e26 hpb1 hrb1 e25 hrg hpg
          subst hG
          simp [sf12, yld_some, exec_reg, exec_dreg, exec_seq, exec_cond, exec_block, exec_scope, exec_exit, exec_ret, exec_skip, exec_loop, ops_nil, ops_cons, ops_cons_gd, stages_nil, stages_cons_n, stages_cons_h, recheck, wantsOp, AV.same, sames, evalOp_p, evalOp_r, evalOp_a, evalOp_call, evalOp_callV, evalOp_store, evalOp_append, evalOp_clear, evalOp_mapUpdate, evalOp_delete, pP_move, pP_pick, pP_build, pP_nil_ptr, pP_nil_func, pP_bin, pP_eq, pP_neg, pP_inv, pP_not, pP_convInt, pP_convStr, pP_fieldAddr, pP_field, pP_indexAddr, pP_indexStr, pP_sliceStr, pP_sliceSl, pP_lenStr, pP_lenNil, pP_lenSl, pP_min, pP_max, pP_extract, pP_mkfn, bV_add, bV_sub, bV_mul, bV_quo, bV_rem, bV_and, bV_or, bV_xor, bV_andNot, bV_eql, bV_neq, bV_lss, bV_leq, bV_gtr, bV_geq, bV_shl, bV_shr, bV_str, eV_bool, eV_nn, eV_np, eV_pn, eV_snn, eV_sns, eV_ssn, eV_mnn, eV_mnm, eV_mmn, eV_fnn, eV_fnf, eV_ffn, eV_agg, rP_load, rP_lenNil, rP_str0, rdEl_K, rdK_row, aP_alloc, aP_box, aP_buildSlice, aP_makeSlice, aP_makeMap, aP_toBytes, hP_store, storeK_some, st_K, stK_row, stE_some, cells_agg, cells_bool, scalar_bool, cells_int, scalar_int, cells_str, scalar_str, cells_nilptr, scalar_nilptr, cells_ptr, scalar_ptr, cells_nilslice, scalar_nilslice, cells_slice, scalar_slice, cells_nilmap, scalar_nilmap, cells_map, scalar_map, cells_nilfunc, scalar_nilfunc, cells_func, scalar_func, eqCells, eqLeaf, run_toL, toL_some, ev_toL, getD_toL, put_toL, keep_toL, asc, fput_same, fput_ne, fbase_nil, fbase_cons, fkeep_nil, fkeep_cons, fzero, fnone, List.map_cons, List.map_nil, ev_lit, put_none, resVals, resVal, resOf, partV, fillA, putCells, fillEls, strBin, minV, optNat, appendEls, elsOf, sliceSlV, sliceStrV, List.replicate, List.getElem?_append_left, List.getElem?_append_right, List.set_append_left, List.set_append_right, List.getElem?_set_self, List.getElem?_set_ne, hq_get0, hq_get, hq_get2, hq_get3, hp_get0, hp_get, hp_get2, hp_get3, hp_set0, hp_set, hp_set2, hp_set3, wr_0, wr_1, wr_2, wr_3, wr_4, wr_n1, hg, get_app hg, set_app hg, get_set_same hg, get_set_app hg, set_set_app hg, len_beq hg, beq_len hg, hg1, get_app hg1, set_app hg1, get_set_same hg1, get_set_app hg1, set_set_app hg1, len_beq hg1, beq_len hg1, hpb1, get_app hpb1, set_app hpb1, get_set_same hpb1, get_set_app hpb1, set_set_app hpb1, len_beq hpb1, beq_len hpb1, hrb1, get_app hrb1, set_app hrb1, get_set_same hrb1, get_set_app hrb1, set_set_app hrb1, len_beq hrb1, beq_len hrb1, hrg, get_app hrg, set_app hrg, get_set_same hrg, get_set_app hrg, set_set_app hrg, len_beq hrg, beq_len hrg, hpg, get_app hpg, set_app hpg, get_set_same hpg, get_set_app hpg, set_set_app hpg, len_beq hpg, beq_len hpg, hgg, get_app hgg, set_app hgg, get_set_same hgg, get_set_app hgg, set_set_app hgg, len_beq hgg, beq_len hgg, hmg, get_app hmg, set_app hmg, get_set_same hmg, get_set_app hmg, set_set_app hmg, len_beq hmg, beq_len hmg, Pv.av, Lv.av, sv_cells, sv_scalar, sv_same, e25, e26, ho1.cells, ho1.scalar, b0, rP_lookup, lookK_k, hf, d1]
          repeat (first | apply yld_endFn | apply yld_seqK | apply yld_blockK | apply yld_regK | apply yld_opsK | apply yld_putK | apply yld_stgK | apply yld_chkK)
          refine loop_got (by simp [sf12, loopsIn]) (s := { s with waits := later p.ack s.waits, kept := s.kept }) (a2.keep (Chg.app _ _ []) (by simp) (by simp) (by simp)) rfl rfl rfl (by simp; omega) hc (get_app hrg) (by omega) (by omega) (fun h => hrv (hft1 _ h)) ?_
          intro f' kk' vo f0' f5' f9' aL oL chL foL
          have gL := aL.gd
          have rL := chL.2 (k.length + 1) _ (by simp; omega) (get_app hrg)
          have oc := oL.rds.cells.1
          have os := oL.rds.cells.2.1
          have fin := fun zz => fin _ kk' vo zz (Chg.app _ _ _) aL oL chL foL rfl (hzp _ kk' (Chg.app _ _ _) chL)
          simp only [Pk.av, Pk.zero, Lt.zero] at rL fin
          have fin0 := fin []
          simp only [List.append_nil] at fin0
          simp [yld_some, exec_reg, exec_dreg, exec_seq, exec_cond, exec_block, exec_scope, exec_exit, exec_ret, exec_skip, exec_loop, ops_nil, ops_cons, ops_cons_gd, stages_nil, stages_cons_n, stages_cons_h, recheck, wantsOp, AV.same, sames, evalOp_p, evalOp_r, evalOp_a, evalOp_call, evalOp_callV, evalOp_store, evalOp_append, evalOp_clear, evalOp_mapUpdate, evalOp_delete, pP_move, pP_pick, pP_build, pP_nil_ptr, pP_nil_func, pP_bin, pP_eq, pP_neg, pP_inv, pP_not, pP_convInt, pP_convStr, pP_fieldAddr, pP_field, pP_indexAddr, pP_indexStr, pP_sliceStr, pP_sliceSl, pP_lenStr, pP_lenNil, pP_lenSl, pP_min, pP_max, pP_extract, pP_mkfn, bV_add, bV_sub, bV_mul, bV_quo, bV_rem, bV_and, bV_or, bV_xor, bV_andNot, bV_eql, bV_neq, bV_lss, bV_leq, bV_gtr, bV_geq, bV_shl, bV_shr, bV_str, eV_bool, eV_nn, eV_np, eV_pn, eV_snn, eV_sns, eV_ssn, eV_mnn, eV_mnm, eV_mmn, eV_fnn, eV_fnf, eV_ffn, eV_agg, rP_load, rP_lenNil, rP_str0, rdEl_K, rdK_row, aP_alloc, aP_box, aP_buildSlice, aP_makeSlice, aP_makeMap, aP_toBytes, hP_store, storeK_some, st_K, stK_row, stE_some, cells_agg, cells_bool, scalar_bool, cells_int, scalar_int, cells_str, scalar_str, cells_nilptr, scalar_nilptr, cells_ptr, scalar_ptr, cells_nilslice, scalar_nilslice, cells_slice, scalar_slice, cells_nilmap, scalar_nilmap, cells_map, scalar_map, cells_nilfunc, scalar_nilfunc, cells_func, scalar_func, eqCells, eqLeaf, run_toL, toL_some, ev_toL, getD_toL, put_toL, keep_toL, asc, fput_same, fput_ne, fbase_nil, fbase_cons, fkeep_nil, fkeep_cons, fzero, fnone, List.map_cons, List.map_nil, ev_lit, put_none, resVals, resVal, resOf, partV, fillA, putCells, fillEls, strBin, minV, optNat, appendEls, elsOf, sliceSlV, sliceStrV, List.replicate, List.getElem?_append_left, List.getElem?_append_right, List.set_append_left, List.set_append_right, List.getElem?_set_self, List.getElem?_set_ne, hq_get0, hq_get, hq_get2, hq_get3, hp_get0, hp_get, hp_get2, hp_get3, hp_set0, hp_set, hp_set2, hp_set3, wr_0, wr_1, wr_2, wr_3, wr_4, wr_n1, f0', f5', f9', gL, get_app gL, set_app gL, get_set_same gL, get_set_app gL, set_set_app gL, len_beq gL, beq_len gL, rL, get_app rL, set_app rL, get_set_same rL, get_set_app rL, set_set_app rL, len_beq rL, beq_len rL, oc, os, fin, fin0]
        have d1 : decide (s.came < p.seq) = true := dec_true h1
        have ws := wsub h1
        by_cases h2 : p.seq - s.came ≤ 64
        rotate_left
        · have d2 : decide (p.seq - s.came ≤ 64) = false := dec_false h2
          have hkp : s.keep p p.y = s.kept := by simp [Ls.keep, hf, d1, d2]
          have fin := fin0 p.y
          rw [hkp] at fin
          simp only [Pv.av, Pk.av, Pk.zero, Lt.zero] at e26 hpb1 hrb1 e25 hrg hpg
          subst hG
          simp [sf12, yld_some, exec_reg, exec_dreg, exec_seq, exec_cond, exec_block, exec_scope, exec_exit, exec_ret, exec_skip, exec_loop, ops_nil, ops_cons, ops_cons_gd, stages_nil, stages_cons_n, stages_cons_h, recheck, wantsOp, AV.same, sames, evalOp_p, evalOp_r, evalOp_a, evalOp_call, evalOp_callV, evalOp_store, evalOp_append, evalOp_clear, evalOp_mapUpdate, evalOp_delete, pP_move, pP_pick, pP_build, pP_nil_ptr, pP_nil_func, pP_bin, pP_eq, pP_neg, pP_inv, pP_not, pP_convInt, pP_convStr, pP_fieldAddr, pP_field, pP_indexAddr, pP_indexStr, pP_sliceStr, pP_sliceSl, pP_lenStr, pP_lenNil, pP_lenSl, pP_min, pP_max, pP_extract, pP_mkfn, bV_add, bV_sub, bV_mul, bV_quo, bV_rem, bV_and, bV_or, bV_xor, bV_andNot, bV_eql, bV_neq, bV_lss, bV_leq, bV_gtr, bV_geq, bV_shl, bV_shr, bV_str, eV_bool, eV_nn, eV_np, eV_pn, eV_snn, eV_sns, eV_ssn, eV_mnn, eV_mnm, eV_mmn, eV_fnn, eV_fnf, eV_ffn, eV_agg, rP_load, rP_lenNil, rP_str0, rdEl_K, rdK_row, aP_alloc, aP_box, aP_buildSlice, aP_makeSlice, aP_makeMap, aP_toBytes, hP_store, storeK_some, st_K, stK_row, stE_some, cells_agg, cells_bool, scalar_bool, cells_int, scalar_int, cells_str, scalar_str, cells_nilptr, scalar_nilptr, cells_ptr, scalar_ptr, cells_nilslice, scalar_nilslice, cells_slice, scalar_slice, cells_nilmap, scalar_nilmap, cells_map, scalar_map, cells_nilfunc, scalar_nilfunc, cells_func, scalar_func, eqCells, eqLeaf, run_toL, toL_some, ev_toL, getD_toL, put_toL, keep_toL, asc, fput_same, fput_ne, fbase_nil, fbase_cons, fkeep_nil, fkeep_cons, fzero, fnone, List.map_cons, List.map_nil, ev_lit, put_none, resVals, resVal, resOf, partV, fillA, putCells, fillEls, strBin, minV, optNat, appendEls, elsOf, sliceSlV, sliceStrV, List.replicate, List.getElem?_append_left, List.getElem?_append_right, List.set_append_left, List.set_append_right, List.getElem?_set_self, List.getElem?_set_ne, hq_get0, hq_get, hq_get2, hq_get3, hp_get0, hp_get, hp_get2, hp_get3, hp_set0, hp_set, hp_set2, hp_set3, wr_0, wr_1, wr_2, wr_3, wr_4, wr_n1, hg, get_app hg, set_app hg, get_set_same hg, get_set_app hg, set_set_app hg, len_beq hg, beq_len hg, hg1, get_app hg1, set_app hg1, get_set_same hg1, get_set_app hg1, set_set_app hg1, len_beq hg1, beq_len hg1, hpb1, get_app hpb1, set_app hpb1, get_set_same hpb1, get_set_app hpb1, set_set_app hpb1, len_beq hpb1, beq_len hpb1, hrb1, get_app hrb1, set_app hrb1, get_set_same hrb1, get_set_app hrb1, set_set_app hrb1, len_beq hrb1, beq_len hrb1, hrg, get_app hrg, set_app hrg, get_set_same hrg, get_set_app hrg, set_set_app hrg, len_beq hrg, beq_len hrg, hpg, get_app hpg, set_app hpg, get_set_same hpg, get_set_app hpg, set_set_app hpg, len_beq hpg, beq_len hpg, hgg, get_app hgg, set_app hgg, get_set_same hgg, get_set_app hgg, set_set_app hgg, len_beq hgg, beq_len hgg, hmg, get_app hmg, set_app hmg, get_set_same hmg, get_set_app hmg, set_set_app hmg, len_beq hmg, beq_len hmg, Pv.av, Lv.av, sv_cells, sv_scalar, sv_same, e25, e26, ho1.cells, ho1.scalar, b0, rP_lookup, lookK_k, hf, d1, ws, d2]
          repeat (first | apply yld_endFn | apply yld_seqK | apply yld_blockK | apply yld_regK | apply yld_opsK | apply yld_putK | apply yld_stgK | apply yld_chkK)
          refine loop_got (by simp [sf12, loopsIn]) (s := { s with waits := later p.ack s.waits, kept := s.kept }) (a2.keep (Chg.app _ _ []) (by simp) (by simp) (by simp)) rfl rfl rfl (by simp; omega) hc (get_app hrg) (by omega) (by omega) (fun h => hrv (hft1 _ h)) ?_
          intro f' kk' vo f0' f5' f9' aL oL chL foL
          have gL := aL.gd
          have rL := chL.2 (k.length + 1) _ (by simp; omega) (get_app hrg)
          have oc := oL.rds.cells.1
          have os := oL.rds.cells.2.1
          have fin := fun zz => fin _ kk' vo zz (Chg.app _ _ _) aL oL chL foL rfl (hzp _ kk' (Chg.app _ _ _) chL)
          simp only [Pk.av, Pk.zero, Lt.zero] at rL fin
          have fin0 := fin []
          simp only [List.append_nil] at fin0
          simp [yld_some, exec_reg, exec_dreg, exec_seq, exec_cond, exec_block, exec_scope, exec_exit, exec_ret, exec_skip, exec_loop, ops_nil, ops_cons, ops_cons_gd, stages_nil, stages_cons_n, stages_cons_h, recheck, wantsOp, AV.same, sames, evalOp_p, evalOp_r, evalOp_a, evalOp_call, evalOp_callV, evalOp_store, evalOp_append, evalOp_clear, evalOp_mapUpdate, evalOp_delete, pP_move, pP_pick, pP_build, pP_nil_ptr, pP_nil_func, pP_bin, pP_eq, pP_neg, pP_inv, pP_not, pP_convInt, pP_convStr, pP_fieldAddr, pP_field, pP_indexAddr, pP_indexStr, pP_sliceStr, pP_sliceSl, pP_lenStr, pP_lenNil, pP_lenSl, pP_min, pP_max, pP_extract, pP_mkfn, bV_add, bV_sub, bV_mul, bV_quo, bV_rem, bV_and, bV_or, bV_xor, bV_andNot, bV_eql, bV_neq, bV_lss, bV_leq, bV_gtr, bV_geq, bV_shl, bV_shr, bV_str, eV_bool, eV_nn, eV_np, eV_pn, eV_snn, eV_sns, eV_ssn, eV_mnn, eV_mnm, eV_mmn, eV_fnn, eV_fnf, eV_ffn, eV_agg, rP_load, rP_lenNil, rP_str0, rdEl_K, rdK_row, aP_alloc, aP_box, aP_buildSlice, aP_makeSlice, aP_makeMap, aP_toBytes, hP_store, storeK_some, st_K, stK_row, stE_some, cells_agg, cells_bool, scalar_bool, cells_int, scalar_int, cells_str, scalar_str, cells_nilptr, scalar_nilptr, cells_ptr, scalar_ptr, cells_nilslice, scalar_nilslice, cells_slice, scalar_slice, cells_nilmap, scalar_nilmap, cells_map, scalar_map, cells_nilfunc, scalar_nilfunc, cells_func, scalar_func, eqCells, eqLeaf, run_toL, toL_some, ev_toL, getD_toL, put_toL, keep_toL, asc, fput_same, fput_ne, fbase_nil, fbase_cons, fkeep_nil, fkeep_cons, fzero, fnone, List.map_cons, List.map_nil, ev_lit, put_none, resVals, resVal, resOf, partV, fillA, putCells, fillEls, strBin, minV, optNat, appendEls, elsOf, sliceSlV, sliceStrV, List.replicate, List.getElem?_append_left, List.getElem?_append_right, List.set_append_left, List.set_append_right, List.getElem?_set_self, List.getElem?_set_ne, hq_get0, hq_get, hq_get2, hq_get3, hp_get0, hp_get, hp_get2, hp_get3, hp_set0, hp_set, hp_set2, hp_set3, wr_0, wr_1, wr_2, wr_3, wr_4, wr_n1, f0', f5', f9', gL, get_app gL, set_app gL, get_set_same gL, get_set_app gL, set_set_app gL, len_beq gL, beq_len gL, rL, get_app rL, set_app rL, get_set_same rL, get_set_app rL, set_set_app rL, len_beq rL, beq_len rL, oc, os, fin, fin0]
        have d2 : decide (p.seq - s.came ≤ 64) = true := dec_true h2
        obtain ⟨z, kB, e28, hzx, cB0, z1, z2, zf⟩ := own_call (k := k0.set g G2 ++ [.row 21 [Lt.zero.av] true true]) (y := p.y) (rds_app (hp1.keep0 hch0 (fun c hc => hpf c (.inl hc)))) (rds_app (hp2.keep0 hch0 (fun c hc => hpf c (.inr hc)))) l1 l2
        have cB : Chg (k0.set g G2) kB [] := (Chg.app _ _ []).trans cB0 (by simp)
        have hlenB := cB.1
        have hgB := cB.2 g _ (by simp) hgg
        have hmB := cB.2 m _ (by simp) hmg
        have hrB := cB.2 (k.length + 1) _ (by simp) hrg
        have hpB := cB.2 k.length _ (by simp) hpg
        have aB := a2.keep cB (by simp) (by simp) (by simp)
        have hgm2 : (kB.set m (.map (kents (s.kept ++ [(p.seq, z)]))))[g]? = some G2 := (List.getElem?_set_ne a.gm.symm).trans hgB
        have hmm2 : (kB.set m (.map (kents (s.kept ++ [(p.seq, z)]))))[m]? = some (.map (kents (s.kept ++ [(p.seq, z)]))) := get_set_same hmB
        have hrm2 : (kB.set m (.map (kents (s.kept ++ [(p.seq, z)]))))[k.length + 1]? = some (.row 25 [Pk.zero.av] true true) := (List.getElem?_set_ne (by omega)).trans hrB
        have hch4 : Chg kB (kB.set m (.map (kents (s.kept ++ [(p.seq, z)])))) [m] := (Chg.refl _ _).set (.inl (by simp))
        have hch3 : Chg (k0.set g G2) (kB.set m (.map (kents (s.kept ++ [(p.seq, z)])))) [m] := (cB.mono (by simp)).trans hch4 (fun c hc => .inl hc)
        have a3 : LinkAt (kB.set m (.map (kents (s.kept ++ [(p.seq, z)])))) g m w0 { s with waits := later p.ack s.waits, kept := s.kept ++ [(p.seq, z)] } :=
          ⟨by subst hG; exact hgm2, aB.ow.keep hch4 (by intro y hy; simp; rintro rfl; exact aB.mv hy), hmm2, a.gm, aB.gv, aB.mv⟩
        have ek : kents (s.kept ++ [(p.seq, z)]) = kents s.kept ++ [(.int .i64 p.seq, .agg z.av)] := by simp [kents]
        have hkp : s.keep p z = s.kept ++ [(p.seq, z)] := by simp [Ls.keep, hf, d1, d2]
        have fin := fin0 z
        rw [hkp] at fin
        have zft : ∀ c, c ∈ foot0 z.s1.av ∨ c ∈ foot0 z.s2.av → k.length + 2 ≤ c ∧ c < kB.length := fun c hc => by
          have := zf c (hc.imp foot0_sub foot0_sub)
          rw [List.length_append] at this
          omega
        simp only [Pv.av, Lv.av, Pk.av, Pk.zero, Lt.av, Lt.zero] at e26 hpb1 hrb1 e25 hrg hpg hpB hrB e28
        subst hG
        simp [sf12, yld_some, exec_reg, exec_dreg, exec_seq, exec_cond, exec_block, exec_scope, exec_exit, exec_ret, exec_skip, exec_loop, ops_nil, ops_cons, ops_cons_gd, stages_nil, stages_cons_n, stages_cons_h, recheck, wantsOp, AV.same, sames, evalOp_p, evalOp_r, evalOp_a, evalOp_call, evalOp_callV, evalOp_store, evalOp_append, evalOp_clear, evalOp_mapUpdate, evalOp_delete, pP_move, pP_pick, pP_build, pP_nil_ptr, pP_nil_func, pP_bin, pP_eq, pP_neg, pP_inv, pP_not, pP_convInt, pP_convStr, pP_fieldAddr, pP_field, pP_indexAddr, pP_indexStr, pP_sliceStr, pP_sliceSl, pP_lenStr, pP_lenNil, pP_lenSl, pP_min, pP_max, pP_extract, pP_mkfn, bV_add, bV_sub, bV_mul, bV_quo, bV_rem, bV_and, bV_or, bV_xor, bV_andNot, bV_eql, bV_neq, bV_lss, bV_leq, bV_gtr, bV_geq, bV_shl, bV_shr, bV_str, eV_bool, eV_nn, eV_np, eV_pn, eV_snn, eV_sns, eV_ssn, eV_mnn, eV_mnm, eV_mmn, eV_fnn, eV_fnf, eV_ffn, eV_agg, rP_load, rP_lenNil, rP_str0, rdEl_K, rdK_row, aP_alloc, aP_box, aP_buildSlice, aP_makeSlice, aP_makeMap, aP_toBytes, hP_store, storeK_some, st_K, stK_row, stE_some, cells_agg, cells_bool, scalar_bool, cells_int, scalar_int, cells_str, scalar_str, cells_nilptr, scalar_nilptr, cells_ptr, scalar_ptr, cells_nilslice, scalar_nilslice, cells_slice, scalar_slice, cells_nilmap, scalar_nilmap, cells_map, scalar_map, cells_nilfunc, scalar_nilfunc, cells_func, scalar_func, eqCells, eqLeaf, run_toL, toL_some, ev_toL, getD_toL, put_toL, keep_toL, asc, fput_same, fput_ne, fbase_nil, fbase_cons, fkeep_nil, fkeep_cons, fzero, fnone, List.map_cons, List.map_nil, ev_lit, put_none, resVals, resVal, resOf, partV, fillA, putCells, fillEls, strBin, minV, optNat, appendEls, elsOf, sliceSlV, sliceStrV, List.replicate, List.getElem?_append_left, List.getElem?_append_right, List.set_append_left, List.set_append_right, List.getElem?_set_self, List.getElem?_set_ne, hq_get0, hq_get, hq_get2, hq_get3, hp_get0, hp_get, hp_get2, hp_get3, hp_set0, hp_set, hp_set2, hp_set3, wr_0, wr_1, wr_2, wr_3, wr_4, wr_n1, hg, get_app hg, set_app hg, get_set_same hg, get_set_app hg, set_set_app hg, len_beq hg, beq_len hg, hg1, get_app hg1, set_app hg1, get_set_same hg1, get_set_app hg1, set_set_app hg1, len_beq hg1, beq_len hg1, hpb1, get_app hpb1, set_app hpb1, get_set_same hpb1, get_set_app hpb1, set_set_app hpb1, len_beq hpb1, beq_len hpb1, hrb1, get_app hrb1, set_app hrb1, get_set_same hrb1, get_set_app hrb1, set_set_app hrb1, len_beq hrb1, beq_len hrb1, hrg, get_app hrg, set_app hrg, get_set_same hrg, get_set_app hrg, set_set_app hrg, len_beq hrg, beq_len hrg, hpg, get_app hpg, set_app hpg, get_set_same hpg, get_set_app hpg, set_set_app hpg, len_beq hpg, beq_len hpg, hgg, get_app hgg, set_app hgg, get_set_same hgg, get_set_app hgg, set_set_app hgg, len_beq hgg, beq_len hgg, hmg, get_app hmg, set_app hmg, get_set_same hmg, get_set_app hmg, set_set_app hmg, len_beq hmg, beq_len hmg, hgB, get_app hgB, set_app hgB, get_set_same hgB, get_set_app hgB, set_set_app hgB, len_beq hgB, beq_len hgB, hmB, get_app hmB, set_app hmB, get_set_same hmB, get_set_app hmB, set_set_app hmB, len_beq hmB, beq_len hmB, hrB, get_app hrB, set_app hrB, get_set_same hrB, get_set_app hrB, set_set_app hrB, len_beq hrB, beq_len hrB, hpB, get_app hpB, set_app hpB, get_set_same hpB, get_set_app hpB, set_set_app hpB, len_beq hpB, beq_len hpB, Pv.av, Lv.av, sv_cells, sv_scalar, sv_same, e25, e26, e28, ho1.cells, ho1.scalar, b0, rP_lookup, lookK_k, hf, d1, ws, d2, hP_update, updK_k hf]
        simp only [ek, Lv.av] at a3 hrm2 hch3 hch4
        repeat (first | apply yld_endFn | apply yld_seqK | apply yld_blockK | apply yld_regK | apply yld_opsK | apply yld_putK | apply yld_stgK | apply yld_chkK)
        refine loop_got (by simp [sf12, loopsIn]) (s := { s with waits := later p.ack s.waits, kept := s.kept ++ [(p.seq, z)] }) a3 rfl rfl rfl (by simp; omega) hc hrm2 (by omega) (by omega) (fun h => hrv (hft1 _ h)) ?_
        intro f' kk' vo f0' f5' f9' aL oL chL foL
        have gL := aL.gd
        have rL := chL.2 (k.length + 1) _ (by simp; omega) hrm2
        have oc := oL.rds.cells.1
        have os := oL.rds.cells.2.1
        have chB : Chg kB kk' [g, m] := (hch4.mono (by simp)).trans chL (fun c hc => .inl hc)
        have fin := fun zz => fin _ kk' vo zz (hch3.mono (by simp)) aL oL chL foL hzx ⟨z1.keep0 chB (fun c hc => by have := zft c (.inl hc); simp; omega), z2.keep0 chB (fun c hc => by have := zft c (.inr hc); simp; omega), fun c hc => by have := zft c hc; exact ⟨by omega, by simp; omega, .inr (by omega)⟩⟩
        simp only [Pk.av, Pk.zero, Lt.zero] at rL fin
        have fin0 := fin []
        simp only [List.append_nil] at fin0
        simp [yld_some, exec_reg, exec_dreg, exec_seq, exec_cond, exec_block, exec_scope, exec_exit, exec_ret, exec_skip, exec_loop, ops_nil, ops_cons, ops_cons_gd, stages_nil, stages_cons_n, stages_cons_h, recheck, wantsOp, AV.same, sames, evalOp_p, evalOp_r, evalOp_a, evalOp_call, evalOp_callV, evalOp_store, evalOp_append, evalOp_clear, evalOp_mapUpdate, evalOp_delete, pP_move, pP_pick, pP_build, pP_nil_ptr, pP_nil_func, pP_bin, pP_eq, pP_neg, pP_inv, pP_not, pP_convInt, pP_convStr, pP_fieldAddr, pP_field, pP_indexAddr, pP_indexStr, pP_sliceStr, pP_sliceSl, pP_lenStr, pP_lenNil, pP_lenSl, pP_min, pP_max, pP_extract, pP_mkfn, bV_add, bV_sub, bV_mul, bV_quo, bV_rem, bV_and, bV_or, bV_xor, bV_andNot, bV_eql, bV_neq, bV_lss, bV_leq, bV_gtr, bV_geq, bV_shl, bV_shr, bV_str, eV_bool, eV_nn, eV_np, eV_pn, eV_snn, eV_sns, eV_ssn, eV_mnn, eV_mnm, eV_mmn, eV_fnn, eV_fnf, eV_ffn, eV_agg, rP_load, rP_lenNil, rP_str0, rdEl_K, rdK_row, aP_alloc, aP_box, aP_buildSlice, aP_makeSlice, aP_makeMap, aP_toBytes, hP_store, storeK_some, st_K, stK_row, stE_some, cells_agg, cells_bool, scalar_bool, cells_int, scalar_int, cells_str, scalar_str, cells_nilptr, scalar_nilptr, cells_ptr, scalar_ptr, cells_nilslice, scalar_nilslice, cells_slice, scalar_slice, cells_nilmap, scalar_nilmap, cells_map, scalar_map, cells_nilfunc, scalar_nilfunc, cells_func, scalar_func, eqCells, eqLeaf, run_toL, toL_some, ev_toL, getD_toL, put_toL, keep_toL, asc, fput_same, fput_ne, fbase_nil, fbase_cons, fkeep_nil, fkeep_cons, fzero, fnone, List.map_cons, List.map_nil, ev_lit, put_none, resVals, resVal, resOf, partV, fillA, putCells, fillEls, strBin, minV, optNat, appendEls, elsOf, sliceSlV, sliceStrV, List.replicate, List.getElem?_append_left, List.getElem?_append_right, List.set_append_left, List.set_append_right, List.getElem?_set_self, List.getElem?_set_ne, hq_get0, hq_get, hq_get2, hq_get3, hp_get0, hp_get, hp_get2, hp_get3, hp_set0, hp_set, hp_set2, hp_set3, wr_0, wr_1, wr_2, wr_3, wr_4, wr_n1, f0', f5', f9', gL, get_app gL, set_app gL, get_set_same gL, get_set_app gL, set_set_app gL, len_beq gL, beq_len gL, rL, get_app rL, set_app rL, get_set_same rL, get_set_app rL, set_set_app rL, len_beq rL, beq_len rL, oc, os, fin, fin0]
        simpa using fin0
end Go.Proofs.Ytmbkklobijflkaa.Lp
