/- Several texts in one. -/
import Derived.Test.YtgnenipkebelfaaGreatDoorBkX
/- Letters: a light letter has short lists. -/
set_option maxRecDepth 100000
set_option linter.unusedVariables false
set_option linter.unusedSimpArgs false
namespace Go.Proofs.YtgnenipkebelfaaGreatDoor.Lt
open Go Go.Eng F Pk Bk

set_option maxHeartbeats 16000000 in
theorem Light_len {k : H} {c : List AV} {l : Ltr} (hc : IsL k c l) : Yld (call fsI exI 4 [.agg c] k) fun r => ∃ b z, r = (.bool b, k ++ z) ∧ (b = true → l.it.length ≤ 60 ∧ l.ti.length ≤ 60) := by
  refine yld_shut fun Q hQ => ?_
  obtain ⟨v1, v2, rfl, h1, h2, b1, b2⟩ := hc
  have s1 := h1.cells
  have s2 := h2.cells
  rw [call_eq fsI exI (f := 4) (sf := sf4) rfl]
  obtain ⟨K, hK⟩ : ∃ K, K = k ++ [Blk.row 21 [ltc l v1 v2] true true, Blk.row 1 [[v2], [v1]] true true] := ⟨_, rfl⟩
  have hK1 : K[k.length]? = some (.row 21 [ltc l v1 v2] true true) := by rw [hK]; simp
  obtain ⟨A, hA⟩ : ∃ A : List (List AV), A = [[v2], [v1]] := ⟨_, rfl⟩
  have hK2 : K[k.length + 1]? = some (.row 1 A true true) := by rw [hK, hA]; simp
  have g1 : RdS K 2 v1 (l.ti.map itc) := by rw [hK]; exact rds_app h1
  have g2 : RdS K 2 v2 (l.it.map itc) := by rw [hK]; exact rds_app h2
  have hno : Q (.bool false, K) := hQ _ ⟨false, _, by rw [hK], by simp⟩
  have hfin : (l.it.length ≤ 60 ∧ l.ti.length ≤ 60) → ∀ b, Q (.bool b, K) := fun hl b => hQ _ ⟨b, _, by rw [hK], fun _ => hl⟩
  clear hQ h1 h2
  unfold ltc at *
  simp [sf4, Lt.evB, recheck, wantsOp, AV.same, sames, eqCells, eqLeaf, toL_some, asc, fzero, fnone, List.map_cons, List.map_nil, resVals, resVal, resOf, partV, fillA, putCells, fillEls, strBin, minV, optNat, appendEls, elsOf, sliceSlV, sliceStrV, List.replicate, List.getElem?_append_left, List.getElem?_append_right, List.set_append_left, List.set_append_right, List.getElem?_set_self, List.getElem?_set_ne, s1.1, s1.2.1, s1.2.2, s2.1, s2.2.1, s2.2.2, ← hK]
  repeat (first | apply yld_endFn | apply yld_seqK | apply yld_blockK | apply yld_regK | apply yld_opsK | apply yld_putK | apply yld_stgK | apply yld_chkK)
  refine yld_rounds (fun m e k' => ∃ f j, e = toL 76 f ∧ m = 2 - j ∧ j ≤ 2 ∧ f 1 = .ptr k.length 0 0 ∧ f 11 = .slice (k.length + 1) 1 0 2 2 true ∧ f 12 = .int .i64 2 ∧ f 13 = .int .i64 (j : Nat) ∧ k' = K ∧ (0 < j → l.it.length ≤ 60) ∧ (1 < j → l.ti.length ≤ 60)) 2 ?_ ?_
  · exact ⟨_, 0, rfl, rfl, by omega, rfl, rfl, rfl, rfl, rfl, by omega, by omega⟩
  · rintro J R hJ hR m e k' ⟨f, j, rfl, rfl, hj, f1, f11, f12, f13, rfl, hl1, hl2⟩
    by_cases hj2 : j < 2
    · obtain ⟨w, X, hw, hg, hX, hx1, hx2⟩ : ∃ (w : AV) (X : List It), RdS k' 2 w (X.map itc) ∧ A[j]? = some [w] ∧ X.length < 4611686018427387904 ∧ (j = 0 → X = l.it) ∧ (j = 1 → X = l.ti) := by
        rcases Nat.lt_succ_iff_lt_or_eq.1 hj2 with h | h
        · obtain rfl : j = 0 := by omega
          exact ⟨v2, l.it, g2, by rw [hA]; rfl, b2, fun _ => rfl, by omega⟩
        · subst h; exact ⟨v1, l.ti, g1, by rw [hA]; rfl, b1, by omega, fun _ => rfl⟩
      have d0 : (j : Int) < 2 := by omega
      have lw := hw.len
      rw [List.length_map] at lw
      have cw := hw.cells
      have hwj : IntKind.i64.wrap ((j : Int) + 1) = ((j + 1 : Nat) : Int) := wrap_i64 (by omega) (by omega)
      by_cases h60 : (60 : Int) < (X.length : Nat)
      · have h60' : 60 < X.length := by omega
        simp [Lt.evB, recheck, wantsOp, AV.same, sames, eqCells, eqLeaf, toL_some, asc, fzero, fnone, List.map_cons, List.map_nil, resVals, resVal, resOf, partV, fillA, putCells, fillEls, strBin, minV, optNat, appendEls, elsOf, sliceSlV, sliceStrV, List.replicate, List.getElem?_append_left, List.getElem?_append_right, List.set_append_left, List.set_append_right, List.getElem?_set_self, List.getElem?_set_ne, f1, f11, f12, f13, d0, hj2, hg, hK2, get_app hK2, set_app hK2, get_set_same hK2, get_set_app hK2, set_set_app hK2, len_beq hK2, beq_len hK2, lw, h60, h60', cw.1, cw.2.1, cw.2.2]
        refine hR _ ?_
        simp [Lt.evB, recheck, wantsOp, AV.same, sames, eqCells, eqLeaf, toL_some, asc, fzero, fnone, List.map_cons, List.map_nil, resVals, resVal, resOf, partV, fillA, putCells, fillEls, strBin, minV, optNat, appendEls, elsOf, sliceSlV, sliceStrV, List.replicate, List.getElem?_append_left, List.getElem?_append_right, List.set_append_left, List.set_append_right, List.getElem?_set_self, List.getElem?_set_ne]
        exact hno
      · have h60' : ¬ 60 < X.length := by omega
        simp [Lt.evB, recheck, wantsOp, AV.same, sames, eqCells, eqLeaf, toL_some, asc, fzero, fnone, List.map_cons, List.map_nil, resVals, resVal, resOf, partV, fillA, putCells, fillEls, strBin, minV, optNat, appendEls, elsOf, sliceSlV, sliceStrV, List.replicate, List.getElem?_append_left, List.getElem?_append_right, List.set_append_left, List.set_append_right, List.getElem?_set_self, List.getElem?_set_ne, f1, f11, f12, f13, d0, hj2, hg, hK2, get_app hK2, set_app hK2, get_set_same hK2, get_set_app hK2, set_set_app hK2, len_beq hK2, beq_len hK2, lw, h60, h60', cw.1, cw.2.1, cw.2.2]
        repeat (first | apply yld_endFn | apply yld_seqK | apply yld_blockK | apply yld_regK | apply yld_opsK | apply yld_putK | apply yld_stgK | apply yld_chkK)
        refine yld_rounds (fun m e k'' => ∃ f i, e = toL 76 f ∧ m = X.length - i ∧ i ≤ X.length ∧ f 1 = .ptr k.length 0 0 ∧ f 4 = w ∧ f 5 = .int .i64 (i : Nat) ∧ f 11 = .slice (k.length + 1) 1 0 2 2 true ∧ f 12 = .int .i64 2 ∧ f 13 = .int .i64 (j : Nat) ∧ k'' = k') X.length ?_ ?_
        · exact ⟨_, 0, rfl, rfl, Nat.zero_le _, rfl, rfl, rfl, rfl, rfl, rfl, rfl⟩
        · rintro J2 R2 hJ2 hR2 m2 e2 k2 ⟨f, i, rfl, rfl, hi, f1, f4, f5, f11, f12, f13, rfl⟩
          by_cases hin : i < X.length
          · have di : decide ((i : Int) < (X.length : Nat)) = true := dec_true (by omega)
            have hwi : IntKind.i64.wrap ((i : Int) + 1) = ((i + 1 : Nat) : Int) := wrap_i64 (by omega) (by omega)
            obtain ⟨iv, gv⟩ := hw.idx (i := i) (by rw [List.length_map]; exact hin)
            have hgx : (X.map itc)[i]? = some (itc X[i]) := by simp [hin]
            rw [hgx] at gv
            unfold itc at gv
            by_cases q1 : (300 : Int) < (X[i].1.length : Nat)
            · have q1' : 300 < X[i].1.length := by omega
              simp [Lt.evB, recheck, wantsOp, AV.same, sames, eqCells, eqLeaf, toL_some, asc, fzero, fnone, List.map_cons, List.map_nil, resVals, resVal, resOf, partV, fillA, putCells, fillEls, strBin, minV, optNat, appendEls, elsOf, sliceSlV, sliceStrV, List.replicate, List.getElem?_append_left, List.getElem?_append_right, List.set_append_left, List.set_append_right, List.getElem?_set_self, List.getElem?_set_ne, f1, f4, f5, f11, f12, f13, lw, iv, gv, di, hin, q1, q1', cw.1, cw.2.1, cw.2.2]
              refine hR2 _ ?_
              simp [Lt.evB, recheck, wantsOp, AV.same, sames, eqCells, eqLeaf, toL_some, asc, fzero, fnone, List.map_cons, List.map_nil, resVals, resVal, resOf, partV, fillA, putCells, fillEls, strBin, minV, optNat, appendEls, elsOf, sliceSlV, sliceStrV, List.replicate, List.getElem?_append_left, List.getElem?_append_right, List.set_append_left, List.set_append_right, List.getElem?_set_self, List.getElem?_set_ne]
              refine hR _ ?_
              simp [Lt.evB, recheck, wantsOp, AV.same, sames, eqCells, eqLeaf, toL_some, asc, fzero, fnone, List.map_cons, List.map_nil, resVals, resVal, resOf, partV, fillA, putCells, fillEls, strBin, minV, optNat, appendEls, elsOf, sliceSlV, sliceStrV, List.replicate, List.getElem?_append_left, List.getElem?_append_right, List.set_append_left, List.set_append_right, List.getElem?_set_self, List.getElem?_set_ne]
              exact hno
            · have q1' : ¬ 300 < X[i].1.length := by omega
              by_cases q2 : (300 : Int) < (X[i].2.length : Nat)
              · have q2' : 300 < X[i].2.length := by omega
                simp [Lt.evB, recheck, wantsOp, AV.same, sames, eqCells, eqLeaf, toL_some, asc, fzero, fnone, List.map_cons, List.map_nil, resVals, resVal, resOf, partV, fillA, putCells, fillEls, strBin, minV, optNat, appendEls, elsOf, sliceSlV, sliceStrV, List.replicate, List.getElem?_append_left, List.getElem?_append_right, List.set_append_left, List.set_append_right, List.getElem?_set_self, List.getElem?_set_ne, f1, f4, f5, f11, f12, f13, lw, iv, gv, di, hin, q1, q1', q2, q2', cw.1, cw.2.1, cw.2.2]
                refine hR2 _ ?_
                simp [Lt.evB, recheck, wantsOp, AV.same, sames, eqCells, eqLeaf, toL_some, asc, fzero, fnone, List.map_cons, List.map_nil, resVals, resVal, resOf, partV, fillA, putCells, fillEls, strBin, minV, optNat, appendEls, elsOf, sliceSlV, sliceStrV, List.replicate, List.getElem?_append_left, List.getElem?_append_right, List.set_append_left, List.set_append_right, List.getElem?_set_self, List.getElem?_set_ne]
                refine hR _ ?_
                simp [Lt.evB, recheck, wantsOp, AV.same, sames, eqCells, eqLeaf, toL_some, asc, fzero, fnone, List.map_cons, List.map_nil, resVals, resVal, resOf, partV, fillA, putCells, fillEls, strBin, minV, optNat, appendEls, elsOf, sliceSlV, sliceStrV, List.replicate, List.getElem?_append_left, List.getElem?_append_right, List.set_append_left, List.set_append_right, List.getElem?_set_self, List.getElem?_set_ne]
                exact hno
              · have q2' : ¬ 300 < X[i].2.length := by omega
                simp [Lt.evB, recheck, wantsOp, AV.same, sames, eqCells, eqLeaf, toL_some, asc, fzero, fnone, List.map_cons, List.map_nil, resVals, resVal, resOf, partV, fillA, putCells, fillEls, strBin, minV, optNat, appendEls, elsOf, sliceSlV, sliceStrV, List.replicate, List.getElem?_append_left, List.getElem?_append_right, List.set_append_left, List.set_append_right, List.getElem?_set_self, List.getElem?_set_ne, f1, f4, f5, f11, f12, f13, lw, iv, gv, di, hin, hwi, q1, q1', q2, q2', cw.1, cw.2.1, cw.2.2]
                exact ⟨X.length - (i + 1), by omega, hJ2 _ _ _ ⟨_, i + 1, rfl, rfl, hin, rfl, rfl, rfl, rfl, rfl, rfl, rfl⟩⟩
          · have di : decide ((i : Int) < (X.length : Nat)) = false := dec_false (by omega)
            simp [Lt.evB, recheck, wantsOp, AV.same, sames, eqCells, eqLeaf, toL_some, asc, fzero, fnone, List.map_cons, List.map_nil, resVals, resVal, resOf, partV, fillA, putCells, fillEls, strBin, minV, optNat, appendEls, elsOf, sliceSlV, sliceStrV, List.replicate, List.getElem?_append_left, List.getElem?_append_right, List.set_append_left, List.set_append_right, List.getElem?_set_self, List.getElem?_set_ne, f1, f4, f5, f11, f12, f13, lw, di, hin]
            refine hR2 _ ?_
            simp [Lt.evB, recheck, wantsOp, AV.same, sames, eqCells, eqLeaf, toL_some, asc, fzero, fnone, List.map_cons, List.map_nil, resVals, resVal, resOf, partV, fillA, putCells, fillEls, strBin, minV, optNat, appendEls, elsOf, sliceSlV, sliceStrV, List.replicate, List.getElem?_append_left, List.getElem?_append_right, List.set_append_left, List.set_append_right, List.getElem?_set_self, List.getElem?_set_ne, f1, f4, f5, f11, f12, f13, hwj]
            exact ⟨2 - (j + 1), by omega, hJ _ _ _ ⟨_, j + 1, rfl, rfl, by omega, rfl, rfl, rfl, rfl, rfl, fun _ => by
              by_cases h : j = 0
              · rw [← hx1 h]; omega
              · exact hl1 (by omega), fun _ => by rw [← hx2 (by omega)]; omega⟩⟩
    · obtain rfl : j = 2 := by omega
      simp [Lt.evB, recheck, wantsOp, AV.same, sames, eqCells, eqLeaf, toL_some, asc, fzero, fnone, List.map_cons, List.map_nil, resVals, resVal, resOf, partV, fillA, putCells, fillEls, strBin, minV, optNat, appendEls, elsOf, sliceSlV, sliceStrV, List.replicate, List.getElem?_append_left, List.getElem?_append_right, List.set_append_left, List.set_append_right, List.getElem?_set_self, List.getElem?_set_ne, f1, f11, f12, f13]
      refine hR _ ?_
      by_cases t1 : (l.key.length : Int) ≤ 300
      · by_cases t2 : (l.value.length : Int) ≤ 300
        · by_cases t3 : (l.to2.length : Int) ≤ 300
          · by_cases t4 : (l.tv.length : Int) ≤ 300
            · simp [Lt.evB, recheck, wantsOp, AV.same, sames, eqCells, eqLeaf, toL_some, asc, fzero, fnone, List.map_cons, List.map_nil, resVals, resVal, resOf, partV, fillA, putCells, fillEls, strBin, minV, optNat, appendEls, elsOf, sliceSlV, sliceStrV, List.replicate, List.getElem?_append_left, List.getElem?_append_right, List.set_append_left, List.set_append_right, List.getElem?_set_self, List.getElem?_set_ne, f1, hK1, get_app hK1, set_app hK1, get_set_same hK1, get_set_app hK1, set_set_app hK1, len_beq hK1, beq_len hK1, t1, t2, t3, t4]
              exact hfin ⟨hl1 (by omega), hl2 (by omega)⟩ _
            · simp [Lt.evB, recheck, wantsOp, AV.same, sames, eqCells, eqLeaf, toL_some, asc, fzero, fnone, List.map_cons, List.map_nil, resVals, resVal, resOf, partV, fillA, putCells, fillEls, strBin, minV, optNat, appendEls, elsOf, sliceSlV, sliceStrV, List.replicate, List.getElem?_append_left, List.getElem?_append_right, List.set_append_left, List.set_append_right, List.getElem?_set_self, List.getElem?_set_ne, f1, hK1, get_app hK1, set_app hK1, get_set_same hK1, get_set_app hK1, set_set_app hK1, len_beq hK1, beq_len hK1, t1, t2, t3, t4]
              exact hfin ⟨hl1 (by omega), hl2 (by omega)⟩ _
          · simp [Lt.evB, recheck, wantsOp, AV.same, sames, eqCells, eqLeaf, toL_some, asc, fzero, fnone, List.map_cons, List.map_nil, resVals, resVal, resOf, partV, fillA, putCells, fillEls, strBin, minV, optNat, appendEls, elsOf, sliceSlV, sliceStrV, List.replicate, List.getElem?_append_left, List.getElem?_append_right, List.set_append_left, List.set_append_right, List.getElem?_set_self, List.getElem?_set_ne, f1, hK1, get_app hK1, set_app hK1, get_set_same hK1, get_set_app hK1, set_set_app hK1, len_beq hK1, beq_len hK1, t1, t2, t3]
            exact hfin ⟨hl1 (by omega), hl2 (by omega)⟩ _
        · simp [Lt.evB, recheck, wantsOp, AV.same, sames, eqCells, eqLeaf, toL_some, asc, fzero, fnone, List.map_cons, List.map_nil, resVals, resVal, resOf, partV, fillA, putCells, fillEls, strBin, minV, optNat, appendEls, elsOf, sliceSlV, sliceStrV, List.replicate, List.getElem?_append_left, List.getElem?_append_right, List.set_append_left, List.set_append_right, List.getElem?_set_self, List.getElem?_set_ne, f1, hK1, get_app hK1, set_app hK1, get_set_same hK1, get_set_app hK1, set_set_app hK1, len_beq hK1, beq_len hK1, t1, t2]
          exact hfin ⟨hl1 (by omega), hl2 (by omega)⟩ _
      · simp [Lt.evB, recheck, wantsOp, AV.same, sames, eqCells, eqLeaf, toL_some, asc, fzero, fnone, List.map_cons, List.map_nil, resVals, resVal, resOf, partV, fillA, putCells, fillEls, strBin, minV, optNat, appendEls, elsOf, sliceSlV, sliceStrV, List.replicate, List.getElem?_append_left, List.getElem?_append_right, List.set_append_left, List.set_append_right, List.getElem?_set_self, List.getElem?_set_ne, f1, hK1, get_app hK1, set_app hK1, get_set_same hK1, get_set_app hK1, set_set_app hK1, len_beq hK1, beq_len hK1, t1]
        exact hfin ⟨hl1 (by omega), hl2 (by omega)⟩ _
theorem k_LightN {k : H} {c : List AV} {l : Ltr} (hc : IsL k c l) : ∃ b, call fsK exK 4 [.agg c] k = some (.bool b, k) ∧ (b = true → l.it.length ≤ 60 ∧ l.ti.length ≤ 60) := by
  obtain ⟨_, e, b, z, rfl, h⟩ := Light_len hc
  exact ⟨b, (eK_Light _ _).trans (dJ rfl rfl e rfl), h⟩
end Go.Proofs.YtgnenipkebelfaaGreatDoor.Lt

/- Letters: lists that are lent; tags. -/
set_option maxRecDepth 100000
set_option linter.unusedVariables false
set_option linter.unusedSimpArgs false
namespace Go.Proofs.YtgnenipkebelfaaGreatDoor.Bk
open Go Go.Eng F BkI

/-- A list that is lent: a mark stands behind it. -/
def Lent (k : H) (m : AV) (X : List It) : Prop := ∃ b c x, m = .slice b 2 0 X.length c x ∧ k[b]? = some (.row 2 (its X ++ [[.str [109, 97, 114, 107], .str []]]) true true) ∧ X.length + 1 ≤ c
theorem Lent.rds {k : H} {m : AV} {X : List It} (h : Lent k m X) : RdS k 2 m (its X) := by
  obtain ⟨b, c, x, rfl, h1, h2⟩ := h
  exact .inr <| .inr ⟨b, c, x, _, true, true, by rw [its_len], h1, by simp, by simp⟩
theorem Lent.keep {k k' : H} {m : AV} {X : List It} {F : List Nat} (h : Lent k m X) (hc : Chg k k' F) (hd : ∀ c ∈ foot m, c ∉ F) : Lent k' m X := by
  obtain ⟨b, c, x, rfl, h1, h2⟩ := h
  exact ⟨b, c, x, rfl, hc.2 b _ (hd b (by simp [foot])) h1, h2⟩
theorem lent_call {k : H} {v : AV} {X : List It} (hx : RdS k 2 v (its X)) (hlen : X.length ≤ 100000) :
    Yld (call Lz.fs3 Lz.ex3 6 [v] k) fun r => ∃ c k', r = (c, k') ∧ Lent k' c X ∧ Chg k k' [] ∧ (∀ x ∈ foot c, k.length ≤ x) := by
  obtain ⟨⟨c, k1⟩, e22, _, _, hr, o, c1, f1⟩ := copy_its hx (by omega)
  cases hr
  obtain ⟨v2, k2, e9, o2, c2, f2⟩ := ownE_append (o.keep (Chg.app k1 [.row 2 [[.str [109, 97, 114, 107], .str []]] true true] []) (by simp)) (x := .slice k1.length 2 0 1 1 true) (X := [[.str [109, 97, 114, 107], .str []]]) (.inr <| .inr ⟨k1.length, 1, true, [[.str [109, 97, 114, 107], .str []]], true, true, rfl, by simp, rfl, by simp⟩) (by simp) (by simp [AV.scalar]) (by rw [its_len]; simp; omega)
  rw [call_eq Lz.fs3 Lz.ex3 (f := 6) (sf := sf6) rfl]
  have lx := hx.len
  rw [its_len] at lx
  rcases o2 with ⟨_, h0⟩ | ⟨b, c', xx, rfl, hb, hc⟩
  · simp at h0
  · simp only [List.length_append, List.length_cons, List.length_nil, Nat.zero_add, its_len] at hc e9 f2
    have h1 : X.length ≤ c' := by omega
    have h2 : X.length ≤ X.length + 1 := by omega
    have kl := c1.1
    have chg : Chg k k2 [] := (c1.trans (Chg.app k1 _ []) (by simp)).trans c2 (fun x hx => .inr (f1 x hx))
    have fr : k.length ≤ b := by have := f2 b (by simp [foot]); omega
    simp [sf6, Lt.evB, recheck, wantsOp, AV.same, sames, eqCells, eqLeaf, toL_some, asc, fzero, fnone, List.map_cons, List.map_nil, resVals, resVal, resOf, partV, fillA, putCells, fillEls, strBin, minV, optNat, appendEls, elsOf, sliceSlV, sliceStrV, List.replicate, List.getElem?_append_left, List.getElem?_append_right, List.set_append_left, List.set_append_right, List.getElem?_set_self, List.getElem?_set_ne, e22, e9, lx, h1, h2]
    exact ⟨_, _, ⟨rfl, rfl⟩, ⟨b, c', xx, rfl, hb, by omega⟩, chg, by simp [foot]; exact fr⟩
theorem stays_call {k : H} {m w : AV} {X : List It} (hm : Lent k m X) (hw : RdS k 2 w (its X)) (hlen : X.length ≤ 100000) : call Lz.fs3 Lz.ex3 11 [m, w] k = some (.bool true, k) := by
  have e18 := same_its hm.rds hw (by omega)
  rw [call_eq Lz.fs3 Lz.ex3 (f := 11) (sf := sf11) rfl]
  obtain ⟨b, c, xx, rfl, hb, hc⟩ := hm
  have hw1 : IntKind.i64.wrap ((X.length : Int) + 1) = ((X.length + 1 : Nat) : Int) := wrap_i64 (by omega) (by omega)
  have h3 : (0 : Int) ≤ (X.length : Int) + 1 := by omega
  have h4 : (X.length : Int) < (X.length : Int) + 1 := by omega
  have h0 : (its X ++ [[AV.str [109, 97, 114, 107], .str []]])[X.length]? = some [AV.str [109, 97, 114, 107], .str []] := by
    rw [List.getElem?_append_right (by rw [its_len]; exact Nat.le_refl _), its_len]; simp
  have h1 : X.length < (its X ++ [[AV.str [109, 97, 114, 107], .str []]]).length := by simp [its_len]
  have h2 : (its X ++ [[AV.str [109, 97, 114, 107], .str []]])[X.length] = [AV.str [109, 97, 114, 107], .str []] := by
    have := List.getElem?_eq_getElem h1
    rw [h0] at this
    exact (Option.some.inj this).symm
  generalize its X ++ [[AV.str [109, 97, 114, 107], .str []]] = E at *
  simp [sf11, Lt.evB, recheck, wantsOp, AV.same, sames, eqCells, eqLeaf, toL_some, asc, fzero, fnone, List.map_cons, List.map_nil, resVals, resVal, resOf, partV, fillA, putCells, fillEls, strBin, minV, optNat, appendEls, elsOf, sliceSlV, sliceStrV, List.replicate, List.getElem?_append_left, List.getElem?_append_right, List.set_append_left, List.set_append_right, List.getElem?_set_self, List.getElem?_set_ne, e18, hw1, hc, h3, h4, hb, get_app hb, set_app hb, get_set_same hb, get_set_app hb, set_set_app hb, len_beq hb, beq_len hb, h0, h1, h2]
/-- What a book does not hold may be tagged anew. -/
theorem Book.retag {k : H} {tg tg' : Nat → Nat} {g ni : Nat} (b : Book k tg g ni) (h : ∀ c, BkTag (tg c) → tg' c = tg c) : Book k tg' g ni := by
  obtain ⟨pi, wi, vi, ui, Xi, b, h2⟩ := b
  have q : ∀ {c t : Nat}, BkTag t → tg c = t → tg' c = t := fun ht e => (h _ (by rw [e]; exact ht)).trans e
  refine ⟨pi, wi, vi, ui, Xi, ⟨b.row, q (.inl (by omega)) b.tgg, b.pio, b.wio, fun c hc => q (.inl (by omega)) (b.tpi c hc), fun c hc => q (.inl (by omega)) (b.twi c hc), b.h2i, b.lvi, fun i hi => ?_, fun i hi => ?_, b.sxi⟩, h2⟩
  · obtain ⟨L, o, r, t, u⟩ := b.hvi i hi
    exact ⟨L, o, r, fun c hc => q (.inr (by omega)) (t c hc), fun e he a ha c hc => q (.inl (by omega)) (u e he a ha c hc)⟩
  · obtain ⟨L, o, r, t, u⟩ := b.hui i hi
    exact ⟨L, o, r, fun c hc => q (.inl (by omega)) (t c hc), fun e he a ha c hc => q (.inl (by omega)) (u e he a ha c hc)⟩
theorem RdS.stp0 {T : Nat → Prop} {k k' : H} {tg tg' : Nat → Nat} {es : Nat} {v : AV} {L : List (List AV)} (o : RdS k es v L) (s : Stp T k k' tg tg') (h : ∀ c, c < k.length → ¬ T (tg c)) : RdS k' es v L := by
  rcases o with h1 | h1 | ⟨b, c, x, els, wr, ap, rfl, h2, h3, h4⟩
  · exact .inl h1
  · exact .inr (.inl h1)
  · exact .inr (.inr ⟨b, c, x, els, wr, ap, rfl, s.keep b _ h2 (h b (List.getElem?_eq_some_iff.1 h2).1), h3, h4⟩)
end Go.Proofs.YtgnenipkebelfaaGreatDoor.Bk

/- Letters: the table in which LetterTells is run. -/
set_option maxRecDepth 100000
set_option linter.unusedVariables false
set_option linter.unusedSimpArgs false
namespace Go.Proofs.YtgnenipkebelfaaGreatDoor.Lz
open Go Go.Eng F Pk Bk Lt

def lB : List Nat := [14, 17, 6, 11]
def fsZ := fsBut fsK lB
theorem fsZ_ok : FsOk Tryz.prog fsZ := fsBut_ok fsK_ok _
noncomputable def exZ : FuncId → List AV → M AV := fun f vs h => if lB.contains f then call fs3 ex3 f vs h else exK f vs h
theorem exZ_ok : CfSound Tryz.prog exZ := join_sound _ (call_sound fs3 ex3 fs3_ok ex3_ok) exK_ok
theorem eZ {f : FuncId} (hf : fsZ f = none) (vs : List AV) (h : H) : call fsZ exZ f vs h = exZ f vs h := call_ex fsZ exZ hf _ _
theorem oZ {f : FuncId} (hX : fsZ f = none) (hl : lB.contains f = false) (hP : fsK f = none) (vs : List AV) (h : H) : call fsZ exZ f vs h = call fsK exK f vs h := by
  rw [call_ex fsZ exZ hX, call_ex fsK exK hP]
  unfold exZ
  rw [if_neg (by rw [hl]; decide)]
theorem eZ_addI (vs : List AV) (h : H) : call fsZ exZ 14 vs h = call fs3 ex3 14 vs h := (eZ rfl _ _).trans rfl
theorem eZ_Apart (vs : List AV) (h : H) : call fsZ exZ 17 vs h = call fs3 ex3 17 vs h := (eZ rfl _ _).trans rfl
theorem eZ_LentItems (vs : List AV) (h : H) : call fsZ exZ 6 vs h = call fs3 ex3 6 vs h := (eZ rfl _ _).trans rfl
theorem eZ_StaysItems (vs : List AV) (h : H) : call fsZ exZ 11 vs h = call fs3 ex3 11 vs h := (eZ rfl _ _).trans rfl
theorem eZ_Put (vs : List AV) (h : H) : call fsZ exZ 7 vs h = call fsK exK 7 vs h := oZ rfl rfl rfl _ _
theorem eZ_rPut (vs : List AV) (h : H) : call fsZ exZ 10 vs h = call fsK exK 10 vs h := oZ rfl rfl rfl _ _
theorem eZ_Get (vs : List AV) (h : H) : call fsZ exZ 12 vs h = call fsK exK 12 vs h := oZ rfl rfl rfl _ _
theorem eZ_rGet (vs : List AV) (h : H) : call fsZ exZ 13 vs h = call fsK exK 13 vs h := oZ rfl rfl rfl _ _
theorem eZ_Right (vs : List AV) (h : H) : call fsZ exZ 9 vs h = call fsK exK 9 vs h := oZ rfl rfl rfl _ _
theorem eZ_rLetter (vs : List AV) (h : H) : call fsZ exZ 8 vs h = call fsK exK 8 vs h := oZ rfl rfl rfl _ _
theorem eZ_SameLetter (vs : List AV) (h : H) : call fsZ exZ 15 vs h = call fsK exK 15 vs h := oZ rfl rfl rfl _ _
theorem eZ_Name (vs : List AV) (h : H) : call fsZ exZ 16 vs h = call fsK exK 16 vs h := oZ rfl rfl rfl _ _
theorem eZ_Light (vs : List AV) (h : H) : call fsZ exZ 4 vs h = call fsK exK 4 vs h := oZ rfl rfl rfl _ _
theorem eZ_alive (vs : List AV) (h : H) : call fsZ exZ 5 vs h = call fsK exK 5 vs h := oZ rfl rfl rfl _ _
section
variable {k : H} {c d : List AV} {l m : Ltr}
theorem z_alive (k : H) : call fsZ exZ 5 [] k = some (.bool true, k) := (eZ_alive _ _).trans (k_alive k)
theorem z_Name (n : Int) (k : H) : call fsZ exZ 16 [.int .i64 n] k = some (.str (nameS n), k) := (eZ_Name _ _).trans (k_Name n k)
theorem z_Light (hc : IsL k c l) : ∃ b, call fsZ exZ 4 [.agg c] k = some (.bool b, k) ∧ (b = true → l.it.length ≤ 60 ∧ l.ti.length ≤ 60) := by
  obtain ⟨b, e, h⟩ := k_LightN hc
  exact ⟨b, (eZ_Light _ _).trans e, h⟩
theorem z_Put (hc : IsL k c l) : call fsZ exZ 7 [.agg c] k = some (.tuple [.str (if right l = true then putS l else []), .bool (right l)], k) := (eZ_Put _ _).trans (k_Put hc)
theorem z_same (hc : IsL k c l) (hd : IsL k d m) : call fsZ exZ 15 [.agg c, .agg d] k = some (.bool (same l m), k) := (eZ_SameLetter _ _).trans (k_same hc hd)
theorem z_Right (hc : IsL k c l) : call fsZ exZ 9 [.agg c] k = some (.bool (right l), k) := (eZ_Right _ _).trans (k_Right hc)
theorem z_Letter (hc : IsL k c l) : call fsZ exZ 8 [.agg c] k = some (.bool (right l), k) := (eZ_rLetter _ _).trans ((eK_rLetter _ _).trans ((eJ_rLetter _ _).trans ((eQ_rLetter _ _).trans (i_Letter hc))))
theorem z_rPut (hc : IsL k c l) (g : Lt.Good l) (hw : Wf l) : call fsZ exZ 10 [.agg c] k = some (.str (putS l), k) := (eZ_rPut _ _).trans ((eK_rPut _ _).trans ((eJ_rPut _ _).trans ((eQ_rPut _ _).trans (i_rPut hc g hw))))
theorem z_Get (b : List UInt8) (hb : b.length ≤ 281474976710656) (k : H) : ∃ c z, call fsZ exZ 12 [.str b] k = some (.tuple [.agg c, .bool (getS b).2], k ++ z) ∧ IsLO k.length (k ++ z) c (getS b).1 := by
  obtain ⟨c, z, e, h⟩ := k_Get b hb k
  exact ⟨c, z, (eZ_Get _ _).trans e, h⟩
theorem z_rGet (b : List UInt8) (hb : b.length ≤ 281474976710656) (k : H) : ∃ c z, call fsZ exZ 13 [.str b] k = some (.tuple [.agg c, .bool (getS b).2], k ++ z) ∧ IsLO k.length (k ++ z) c (getS b).1 := by
  obtain ⟨c, z, e, h⟩ := rGet_call b hb k
  rw [getR_eq] at e h
  exact ⟨c, z, (eZ_rGet _ _).trans ((eK_rGet _ _).trans ((eJ_rGet _ _).trans ((eQ_rGet _ _).trans e))), h⟩
end
theorem getS_short (b : List UInt8) : (getS b).1.it.length ≤ 40 ∧ (getS b).1.ti.length ≤ 40 := by
  cases h : (getS b).2
  · rw [getS_no h]; simp [zeroLtr]
  · have g := (getS_ok h).1
    exact ⟨g.it.1, g.ti.1⟩
/-- What one round comes to: bytes are read twice, the lists are kept. -/
theorem round {K : H} {tg : Nat → Nat} {g ni : Nat} (bk : Book K tg g ni) (cc : List UInt8) (hcc : cc.length ≤ 281474976710656) :
    ∃ (c d : List AV) (v1 v2 : AV) (K1 K2 K4 K5 : H) (tg' : Nat → Nat) (ni' : Nat), c = ltc (getS cc).1 v1 v2 ∧
      call fsZ exZ 12 [.str cc] K = some (.tuple [.agg c, .bool (getS cc).2], K1) ∧
      call fsZ exZ 13 [.str cc] (K1 ++ [Blk.row 21 [c] true true]) = some (.tuple [.agg d, .bool (getS cc).2], K2) ∧
      call fsZ exZ 14 [.ptr g 0 0, v2] (K2 ++ [Blk.row 21 [d] true true]) = some (.tuple [], K4) ∧
      call fsZ exZ 14 [.ptr g 0 0, v1] K4 = some (.tuple [], K5) ∧
      IsL K5 c (getS cc).1 ∧ IsL K5 d (getS cc).1 ∧ K2[K1.length]? = some (Blk.row 21 [c] true true) ∧ K4[K1.length]? = some (Blk.row 21 [c] true true) ∧ K5[K1.length]? = some (Blk.row 21 [c] true true) ∧ K5[K2.length]? = some (Blk.row 21 [d] true true) ∧
      Book K5 tg' g ni' ∧ Stp (fun t => t = 1 ∨ t = 2 ∨ t = 3) K K5 tg tg' := by
  obtain ⟨c, z2, e1, i1⟩ := z_Get cc hcc K
  obtain ⟨K1, hK1⟩ : ∃ K1, K1 = K ++ z2 := ⟨_, rfl⟩
  rw [← hK1] at e1 i1
  obtain ⟨d, z3, e2, i2⟩ := z_rGet cc hcc (K1 ++ [Blk.row 21 [c] true true])
  obtain ⟨K2, hK2⟩ : ∃ K2, K2 = (K1 ++ [Blk.row 21 [c] true true]) ++ z3 := ⟨_, rfl⟩
  rw [← hK2] at e2 i2
  have l1 : K.length ≤ K1.length := by rw [hK1]; simp
  have l2 : K1.length < K2.length := by rw [hK2]; simp
  have r2 : K2[K1.length]? = some (Blk.row 21 [c] true true) := by rw [hK2]; exact get_app (by simp)
  obtain ⟨K3, hK3⟩ : ∃ K3, K3 = K2 ++ [Blk.row 21 [d] true true] := ⟨_, rfl⟩
  have l3 : K3.length = K2.length + 1 := by rw [hK3]; simp
  have r3 : K3[K1.length]? = some (Blk.row 21 [c] true true) := by rw [hK3]; exact get_app r2
  have r3d : K3[K2.length]? = some (Blk.row 21 [d] true true) := by rw [hK3]; simp
  have c13 : Chg K1 K3 [] := by rw [hK3, hK2, List.append_assoc, List.append_assoc]; exact Chg.app _ _ _
  have c23 : Chg K2 K3 [] := by rw [hK3]; exact Chg.app _ _ _
  have c03 : Chg K K3 [] := (by rw [hK1]; exact Chg.app _ _ _ : Chg K K1 []).trans c13 (by simp)
  obtain ⟨s1, s2⟩ := getS_short cc
  generalize (getS cc).1 = y at *
  obtain ⟨v1, v2, hc, o1, o2, f1, f2, f12, m1, m2⟩ := i1
  obtain ⟨w1, w2, hd, p1, p2, h1, h2, _, _, _⟩ := i2
  have t1 := o1.lt
  have t2 := o2.lt
  have hd1 : ∀ a ∈ foot w1, K1.length < a := fun a ha => by have := h1 a ha; simp at this; omega
  have hd2 : ∀ a ∈ foot w2, K1.length < a := fun a ha => by have := h2 a ha; simp at this; omega
  -- tags
  obtain ⟨tA, hA⟩ : ∃ t : Nat → Nat, ∀ a, t a = if a < K.length then tg a else if a ∈ foot v2 then 10 + 2 * ni else 9 := ⟨_, fun _ => rfl⟩
  have sA : Stp (fun _ => False) K K3 tg tA := Stp.of c03 (by simp) (fun a ha => by rw [hA, if_pos ha])
  have bA := bk.stp sA (fun t h => h.elim)
  obtain ⟨⟨_, K4⟩, e3, _, tB, ni2, hr, bB, sB⟩ := bA.addI (v := v2) (o2.keep c13 (by simp)) (X := y.it) rfl (by omega) (fun a ha => by rw [hA, if_neg (by have := f2 a ha; omega), if_pos ha]) (fun e he a ha c hc => by
    have hc := foot0_sub hc
    rw [BkI.its_foot y.it e he a ha] at hc
    cases hc)
  cases hr
  have nineA : ∀ a, K.length ≤ a → a ∉ foot v2 → tA a = 9 := fun a h1 h2 => by rw [hA, if_neg (by omega), if_neg h2]
  have v12 : ∀ a ∈ foot v1, a ∉ foot v2 := f12
  have nB : ∀ a, a < K3.length → tB a = tA a := sB.old
  have o1' : OwnE K4 2 v1 (y.ti.map itc) := (o1.keep c13 (by simp)).stp sB (fun a ha => by rw [nineA a (f1 a ha) (v12 a ha)]; simp)
  obtain ⟨tC, hC⟩ : ∃ t : Nat → Nat, ∀ a, t a = if a ∈ foot v1 then 10 + 2 * ni2 else tB a := ⟨_, fun _ => rfl⟩
  have bC : Book K4 tC g ni2 := bB.retag (fun a ha => by
    rw [hC]
    split
    · rename_i hm
      have h3 : a < K3.length := by have := t1 a hm; omega
      rw [nB a h3, nineA a (f1 a hm) (v12 a hm)] at ha
      unfold BkTag at ha
      omega
    · rfl)
  obtain ⟨⟨_, K5⟩, e4, _, tD, ni3, hr, bD, sD⟩ := bC.addI (v := v1) o1' (X := y.ti) rfl (by omega) (fun a ha => by rw [hC, if_pos ha]) (fun e he a ha c hc => by
    have hc := foot0_sub hc
    rw [BkI.its_foot y.ti e he a ha] at hc
    cases hc)
  cases hr
  have sAB : Stp (fun t => t = 1 ∨ t = 2 ∨ t = 3) K K4 tg tB := (sA.mono (by simp)).trans sB
  have sAC : Stp (fun t => t = 1 ∨ t = 2 ∨ t = 3) K K4 tg tC := ⟨sAB.len, fun a ha => by
    rw [hC, if_neg (fun hm => by have := f1 a hm; omega)]
    exact sAB.old a ha, sAB.keep⟩
  have sE := sAC.trans sD
  -- a block behind, with the tag 9, stays
  have stay : ∀ a x, K.length ≤ a → a ∉ foot v1 → a ∉ foot v2 → K3[a]? = some x → K4[a]? = some x ∧ K5[a]? = some x := by
    intro a x ha h1 h2 hx
    have hl := (List.getElem?_eq_some_iff.1 hx).1
    have x4 := sB.keep a x hx (by rw [nineA a ha h2]; simp)
    exact ⟨x4, sD.keep a x x4 (by rw [hC, if_neg h1, nB a hl, nineA a ha h2]; simp)⟩
  have n1 : ∀ a, K1.length ≤ a → a ∉ foot v1 ∧ a ∉ foot v2 := fun a h => ⟨fun hm => by have := t1 a hm; omega, fun hm => by have := t2 a hm; omega⟩
  have q1 := stay K1.length _ l1 (n1 _ (Nat.le_refl _)).1 (n1 _ (Nat.le_refl _)).2 r3
  have q2 := stay K2.length _ (by omega) (n1 _ (by omega)).1 (n1 _ (by omega)).2 r3d
  -- what was read
  have ow : ∀ {w : AV} {L : List (List AV)}, OwnE K2 2 w L → (∀ a ∈ foot w, K1.length < a) → RdS K5 2 w L := by
    intro w L o h
    have o3 := o.keep c23 (by simp)
    have l3' := o3.lt
    have o4 := o3.stp sB (fun a ha => by have := h a ha; rw [nineA a (by omega) (n1 a (by omega)).2]; simp)
    exact (o4.stp sD (fun a ha => by have := h a ha; have := l3' a ha; rw [hC, if_neg (n1 a (by omega)).1, nB a (by omega), nineA a (by omega) (n1 a (by omega)).2]; simp)).rds
  have r1 : RdS K5 2 v1 (y.ti.map itc) := (o1'.stp sD (fun a ha => by rw [hC, if_pos ha]; simp; omega)).rds
  have r2' : RdS K5 2 v2 (y.it.map itc) := (((o2.keep c13 (by simp)).stp sB (fun a ha => by rw [hA, if_neg (by have := f2 a ha; omega), if_pos ha]; simp; omega)).stp sD (fun a ha => by
    have := t2 a ha
    have h3 : a < K3.length := by omega
    rw [hC, if_neg (fun hm => v12 a hm ha), nB a h3, hA, if_neg (by have := f2 a ha; omega), if_pos ha]; simp; omega)).rds
  refine ⟨c, d, v1, v2, K1, K2, K4, K5, tD, ni3, hc, e1, e2, ?_, (eZ_addI _ _).trans e4, ⟨v1, v2, hc, r1, r2', by omega, by omega⟩, ⟨w1, w2, hd, ow p1 hd1, ow p2 hd2, by omega, by omega⟩, r2, q1.1, q1.2, q2.2, bD, sE⟩
  rw [← hK3]
  exact (eZ_addI _ _).trans e3
end Go.Proofs.YtgnenipkebelfaaGreatDoor.Lz
