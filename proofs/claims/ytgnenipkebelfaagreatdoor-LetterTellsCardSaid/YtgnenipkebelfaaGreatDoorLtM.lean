/- Letters: names; what is light; alive (written by genlt6.py) -/
import Derived.Test.YtgnenipkebelfaaGreatDoorLtL
set_option maxRecDepth 100000
set_option linter.unusedVariables false
set_option linter.unusedSimpArgs false
namespace Go.Proofs.YtgnenipkebelfaaGreatDoor.Lt
open Go Go.Eng F Pk Bk

def names : List (List UInt8) := [[97, 115, 107], [116, 111, 108, 100], [108, 111, 97, 100], [108, 111, 97, 100, 115], [108, 111, 99, 107], [108, 111, 99, 107, 101, 100], [117, 110, 108, 111, 99, 107], [103, 105, 118, 101], [103, 97, 118, 101], [111, 102, 102, 101, 114], [97, 99, 99, 101, 112, 116], [99, 104, 117, 110, 107], [103, 111, 116], [99, 111, 109, 109, 105, 116], [100, 111, 110, 101], [100, 114, 111, 112]]
def nameS (n : Int) : List UInt8 := if n < 1 ∨ 16 < n then [] else (names[(n - 1).toNat]?).getD []
def allS : List UInt8 := [97, 115, 107, 32, 116, 111, 108, 100, 32, 108, 111, 97, 100, 32, 108, 111, 97, 100, 115, 32, 108, 111, 99, 107, 32, 108, 111, 99, 107, 101, 100, 32, 117, 110, 108, 111, 99, 107, 32, 103, 105, 118, 101, 32, 103, 97, 118, 101, 32, 111, 102, 102, 101, 114, 32, 97, 99, 99, 101, 112, 116, 32, 99, 104, 117, 110, 107, 32, 103, 111, 116, 32, 99, 111, 109, 109, 105, 116, 32, 100, 111, 110, 101, 32, 100, 114, 111, 112]
theorem fields_all : Lib.fields allS = names := by decide
theorem Fields_call (h : H) : call fsI exI 43 [.str [97, 115, 107, 32, 116, 111, 108, 100, 32, 108, 111, 97, 100, 32, 108, 111, 97, 100, 115, 32, 108, 111, 99, 107, 32, 108, 111, 99, 107, 101, 100, 32, 117, 110, 108, 111, 99, 107, 32, 103, 105, 118, 101, 32, 103, 97, 118, 101, 32, 111, 102, 102, 101, 114, 32, 97, 99, 99, 101, 112, 116, 32, 99, 104, 117, 110, 107, 32, 103, 111, 116, 32, 99, 111, 109, 109, 105, 116, 32, 100, 111, 110, 101, 32, 100, 114, 111, 112]] h = some (.slice h.length 1 0 16 16 true, h ++ [.row 1 (names.map fun l => [.str l]) true true]) := by
  have e : call fsI exI 43 [.str [97, 115, 107, 32, 116, 111, 108, 100, 32, 108, 111, 97, 100, 32, 108, 111, 97, 100, 115, 32, 108, 111, 99, 107, 32, 108, 111, 99, 107, 101, 100, 32, 117, 110, 108, 111, 99, 107, 32, 103, 105, 118, 101, 32, 103, 97, 118, 101, 32, 111, 102, 102, 101, 114, 32, 97, 99, 99, 101, 112, 116, 32, 99, 104, 117, 110, 107, 32, 103, 111, 116, 32, 99, 111, 109, 109, 105, 116, 32, 100, 111, 110, 101, 32, 100, 114, 111, 112]] h = exW 43 [.str allS] h := (eI_Fields _ _).trans ((eH_Fields _ _).trans ((eD_Fields _ _).trans ((eC_Fields _ _).trans ((eB_Fields _ _).trans (eA_Fields _ _)))))
  rw [e]
  have h1 : allS.length < 4294967281 ∧ (allS.all fun c => decide (c.toNat < 128)) = true := by decide
  simp only [exW]
  rw [if_pos h1, fields_all]
  rfl
theorem Name_call (n : Int) (k : H) : ∃ z, call fsI exI 16 [.int .i64 n] k = some (.str (nameS n), k ++ z) := by
  rw [call_eq fsI exI (f := 16) (sf := sf16) rfl]
  unfold nameS
  by_cases h1 : n < 1
  · simp [sf16, evB, recheck, wantsOp, AV.same, sames, eqCells, eqLeaf, toL_some, asc, fzero, fnone, List.map_cons, List.map_nil, resVals, resVal, resOf, partV, fillA, putCells, fillEls, strBin, minV, optNat, appendEls, elsOf, sliceSlV, sliceStrV, List.replicate, List.getElem?_append_left, List.getElem?_append_right, List.set_append_left, List.set_append_right, List.getElem?_set_self, List.getElem?_set_ne, h1]
  · by_cases h2 : 16 < n
    · simp [sf16, evB, recheck, wantsOp, AV.same, sames, eqCells, eqLeaf, toL_some, asc, fzero, fnone, List.map_cons, List.map_nil, resVals, resVal, resOf, partV, fillA, putCells, fillEls, strBin, minV, optNat, appendEls, elsOf, sliceSlV, sliceStrV, List.replicate, List.getElem?_append_left, List.getElem?_append_right, List.set_append_left, List.set_append_right, List.getElem?_set_self, List.getElem?_set_ne, h1, h2]
    · obtain ⟨m, rfl⟩ : ∃ m : Nat, n = m + 1 := ⟨(n - 1).toNat, by omega⟩
      have hw : IntKind.i64.wrap ((m : Int) + 1 - 1) = m := by
        have : (m : Int) + 1 - 1 = m := by omega
        rw [this]; exact wrap_i64 (by omega) (by omega)
      have hw2 : IntKind.i64.wrap (m : Int) = m := wrap_i64 (by omega) (by omega)
      have hm : m < 16 := by omega
      have h3 : (m : Int) < 16 := by omega
      have h4 : ((m : Int) + 1 - 1).toNat = m := by omega
      have hl : m < names.length := hm
      have hg : (names.map fun l => [AV.str l])[m]? = some [.str names[m]] := by simp [hl]
      have hg2 : names[m]? = some names[m] := by simp [hl]
      have eF := Fields_call k
      generalize names = N at *
      simp [sf16, evB, recheck, wantsOp, AV.same, sames, eqCells, eqLeaf, toL_some, asc, fzero, fnone, List.map_cons, List.map_nil, resVals, resVal, resOf, partV, fillA, putCells, fillEls, strBin, minV, optNat, appendEls, elsOf, sliceSlV, sliceStrV, List.replicate, List.getElem?_append_left, List.getElem?_append_right, List.set_append_left, List.set_append_right, List.getElem?_set_self, List.getElem?_set_ne, h1, h2, hw, hw2, h3, h4, eF, hg, hg2, hl]
set_option maxHeartbeats 8000000 in
theorem Light_loop {k : H} {c : List AV} {l : Ltr} (hc : IsL k c l) : Yld (call fsI exI 4 [.agg c] k) fun r => ∃ b z, r = (.bool b, k ++ z) := by
  refine yld_shut fun Q hQ => ?_
  obtain ⟨v1, v2, rfl, h1, h2, b1, b2⟩ := hc
  have s1 := h1.cells
  have s2 := h2.cells
  rw [call_eq fsI exI (f := 4) (sf := sf4) rfl]
  obtain ⟨K, hK⟩ : ∃ K, K = k ++ [Blk.row 21 [ltc l v1 v2] true true, Blk.row 1 [[v2], [v1]] true true] := ⟨_, rfl⟩
  have hK1 : K[k.length]? = some (.row 21 [ltc l v1 v2] true true) := by rw [hK]; simp
  obtain ⟨A, hA⟩ : ∃ A : List (List AV), A = [[v2], [v1]] := ⟨_, rfl⟩
  have hK2 : K[k.length + 1]? = some (.row 1 A true true) := by rw [hK, hA]; simp
  have g1 : RdS K 2 v1 (l.ti.map itc) := by rw [hK]; exact rds_app h1
  have g2 : RdS K 2 v2 (l.it.map itc) := by rw [hK]; exact rds_app h2
  have hfin : ∀ b, Q (.bool b, K) := fun b => hQ _ ⟨b, _, by rw [hK]⟩
  clear hQ h1 h2
  unfold ltc at *
  simp [sf4, evB, recheck, wantsOp, AV.same, sames, eqCells, eqLeaf, toL_some, asc, fzero, fnone, List.map_cons, List.map_nil, resVals, resVal, resOf, partV, fillA, putCells, fillEls, strBin, minV, optNat, appendEls, elsOf, sliceSlV, sliceStrV, List.replicate, List.getElem?_append_left, List.getElem?_append_right, List.set_append_left, List.set_append_right, List.getElem?_set_self, List.getElem?_set_ne, s1.1, s1.2.1, s1.2.2, s2.1, s2.2.1, s2.2.2, ← hK]
  repeat (first | apply yld_endFn | apply yld_seqK | apply yld_blockK | apply yld_regK | apply yld_opsK | apply yld_putK | apply yld_stgK | apply yld_chkK)
  refine yld_rounds (fun m e k' => ∃ f j, e = toL 76 f ∧ m = 2 - j ∧ j ≤ 2 ∧ f 1 = .ptr k.length 0 0 ∧ f 11 = .slice (k.length + 1) 1 0 2 2 true ∧ f 12 = .int .i64 2 ∧ f 13 = .int .i64 (j : Nat) ∧ k' = K) 2 ?_ ?_
  · exact ⟨_, 0, rfl, rfl, by omega, rfl, rfl, rfl, rfl, rfl⟩
  · rintro J R hJ hR m e k' ⟨f, j, rfl, rfl, hj, f1, f11, f12, f13, rfl⟩
    by_cases hj2 : j < 2
    · obtain ⟨w, X, hw, hg, hX⟩ : ∃ (w : AV) (X : List It), RdS k' 2 w (X.map itc) ∧ A[j]? = some [w] ∧ X.length < 4611686018427387904 := by
        rcases Nat.lt_succ_iff_lt_or_eq.1 hj2 with h | h
        · obtain rfl : j = 0 := by omega
          exact ⟨v2, l.it, g2, by rw [hA]; rfl, b2⟩
        · subst h; exact ⟨v1, l.ti, g1, by rw [hA]; rfl, b1⟩
      have d0 : (j : Int) < 2 := by omega
      have lw := hw.len
      rw [List.length_map] at lw
      have cw := hw.cells
      have hwj : IntKind.i64.wrap ((j : Int) + 1) = ((j + 1 : Nat) : Int) := wrap_i64 (by omega) (by omega)
      by_cases h60 : (60 : Int) < (X.length : Nat)
      · have h60' : 60 < X.length := by omega
        simp [evB, recheck, wantsOp, AV.same, sames, eqCells, eqLeaf, toL_some, asc, fzero, fnone, List.map_cons, List.map_nil, resVals, resVal, resOf, partV, fillA, putCells, fillEls, strBin, minV, optNat, appendEls, elsOf, sliceSlV, sliceStrV, List.replicate, List.getElem?_append_left, List.getElem?_append_right, List.set_append_left, List.set_append_right, List.getElem?_set_self, List.getElem?_set_ne, f1, f11, f12, f13, d0, hj2, hg, hK2, get_app hK2, set_app hK2, get_set_same hK2, get_set_app hK2, set_set_app hK2, len_beq hK2, beq_len hK2, lw, h60, h60', cw.1, cw.2.1, cw.2.2]
        refine hR _ ?_
        simp [evB, recheck, wantsOp, AV.same, sames, eqCells, eqLeaf, toL_some, asc, fzero, fnone, List.map_cons, List.map_nil, resVals, resVal, resOf, partV, fillA, putCells, fillEls, strBin, minV, optNat, appendEls, elsOf, sliceSlV, sliceStrV, List.replicate, List.getElem?_append_left, List.getElem?_append_right, List.set_append_left, List.set_append_right, List.getElem?_set_self, List.getElem?_set_ne]
        exact hfin _
      · have h60' : ¬ 60 < X.length := by omega
        simp [evB, recheck, wantsOp, AV.same, sames, eqCells, eqLeaf, toL_some, asc, fzero, fnone, List.map_cons, List.map_nil, resVals, resVal, resOf, partV, fillA, putCells, fillEls, strBin, minV, optNat, appendEls, elsOf, sliceSlV, sliceStrV, List.replicate, List.getElem?_append_left, List.getElem?_append_right, List.set_append_left, List.set_append_right, List.getElem?_set_self, List.getElem?_set_ne, f1, f11, f12, f13, d0, hj2, hg, hK2, get_app hK2, set_app hK2, get_set_same hK2, get_set_app hK2, set_set_app hK2, len_beq hK2, beq_len hK2, lw, h60, h60', cw.1, cw.2.1, cw.2.2]
        repeat (first | apply yld_endFn | apply yld_seqK | apply yld_blockK | apply yld_regK | apply yld_opsK | apply yld_putK | apply yld_stgK | apply yld_chkK)
        refine yld_rounds (fun m e k'' => ∃ f i, e = toL 76 f ∧ m = X.length - i ∧ i ≤ X.length ∧ f 1 = .ptr k.length 0 0 ∧ f 4 = w ∧ f 5 = .int .i64 (i : Nat) ∧ f 11 = .slice (k.length + 1) 1 0 2 2 true ∧ f 12 = .int .i64 2 ∧ f 13 = .int .i64 (j : Nat) ∧ k'' = k') X.length ?_ ?_
        · exact ⟨_, 0, rfl, rfl, Nat.zero_le _, rfl, rfl, rfl, rfl, rfl, rfl, rfl⟩
        · rintro J2 R2 hJ2 hR2 m2 e2 k2 ⟨f, i, rfl, rfl, hi, f1, f4, f5, f11, f12, f13, rfl⟩
          by_cases hin : i < X.length
          · have di : decide ((i : Int) < (X.length : Nat)) = true := dec_true (by omega)
            have hwi : IntKind.i64.wrap ((i : Int) + 1) = ((i + 1 : Nat) : Int) := wrap_i64 (by omega) (by omega)
            obtain ⟨iv, gv⟩ := hw.idx (i := i) (by rw [List.length_map]; exact hin)
            have hgx : (X.map itc)[i]? = some (itc X[i]) := by simp [hin]
            rw [hgx] at gv
            unfold itc at gv
            by_cases q1 : (300 : Int) < (X[i].1.length : Nat)
            · have q1' : 300 < X[i].1.length := by omega
              simp [evB, recheck, wantsOp, AV.same, sames, eqCells, eqLeaf, toL_some, asc, fzero, fnone, List.map_cons, List.map_nil, resVals, resVal, resOf, partV, fillA, putCells, fillEls, strBin, minV, optNat, appendEls, elsOf, sliceSlV, sliceStrV, List.replicate, List.getElem?_append_left, List.getElem?_append_right, List.set_append_left, List.set_append_right, List.getElem?_set_self, List.getElem?_set_ne, f1, f4, f5, f11, f12, f13, lw, iv, gv, di, hin, q1, q1', cw.1, cw.2.1, cw.2.2]
              refine hR2 _ ?_
              simp [evB, recheck, wantsOp, AV.same, sames, eqCells, eqLeaf, toL_some, asc, fzero, fnone, List.map_cons, List.map_nil, resVals, resVal, resOf, partV, fillA, putCells, fillEls, strBin, minV, optNat, appendEls, elsOf, sliceSlV, sliceStrV, List.replicate, List.getElem?_append_left, List.getElem?_append_right, List.set_append_left, List.set_append_right, List.getElem?_set_self, List.getElem?_set_ne]
              refine hR _ ?_
              simp [evB, recheck, wantsOp, AV.same, sames, eqCells, eqLeaf, toL_some, asc, fzero, fnone, List.map_cons, List.map_nil, resVals, resVal, resOf, partV, fillA, putCells, fillEls, strBin, minV, optNat, appendEls, elsOf, sliceSlV, sliceStrV, List.replicate, List.getElem?_append_left, List.getElem?_append_right, List.set_append_left, List.set_append_right, List.getElem?_set_self, List.getElem?_set_ne]
              exact hfin _
            · have q1' : ¬ 300 < X[i].1.length := by omega
              by_cases q2 : (300 : Int) < (X[i].2.length : Nat)
              · have q2' : 300 < X[i].2.length := by omega
                simp [evB, recheck, wantsOp, AV.same, sames, eqCells, eqLeaf, toL_some, asc, fzero, fnone, List.map_cons, List.map_nil, resVals, resVal, resOf, partV, fillA, putCells, fillEls, strBin, minV, optNat, appendEls, elsOf, sliceSlV, sliceStrV, List.replicate, List.getElem?_append_left, List.getElem?_append_right, List.set_append_left, List.set_append_right, List.getElem?_set_self, List.getElem?_set_ne, f1, f4, f5, f11, f12, f13, lw, iv, gv, di, hin, q1, q1', q2, q2', cw.1, cw.2.1, cw.2.2]
                refine hR2 _ ?_
                simp [evB, recheck, wantsOp, AV.same, sames, eqCells, eqLeaf, toL_some, asc, fzero, fnone, List.map_cons, List.map_nil, resVals, resVal, resOf, partV, fillA, putCells, fillEls, strBin, minV, optNat, appendEls, elsOf, sliceSlV, sliceStrV, List.replicate, List.getElem?_append_left, List.getElem?_append_right, List.set_append_left, List.set_append_right, List.getElem?_set_self, List.getElem?_set_ne]
                refine hR _ ?_
                simp [evB, recheck, wantsOp, AV.same, sames, eqCells, eqLeaf, toL_some, asc, fzero, fnone, List.map_cons, List.map_nil, resVals, resVal, resOf, partV, fillA, putCells, fillEls, strBin, minV, optNat, appendEls, elsOf, sliceSlV, sliceStrV, List.replicate, List.getElem?_append_left, List.getElem?_append_right, List.set_append_left, List.set_append_right, List.getElem?_set_self, List.getElem?_set_ne]
                exact hfin _
              · have q2' : ¬ 300 < X[i].2.length := by omega
                simp [evB, recheck, wantsOp, AV.same, sames, eqCells, eqLeaf, toL_some, asc, fzero, fnone, List.map_cons, List.map_nil, resVals, resVal, resOf, partV, fillA, putCells, fillEls, strBin, minV, optNat, appendEls, elsOf, sliceSlV, sliceStrV, List.replicate, List.getElem?_append_left, List.getElem?_append_right, List.set_append_left, List.set_append_right, List.getElem?_set_self, List.getElem?_set_ne, f1, f4, f5, f11, f12, f13, lw, iv, gv, di, hin, hwi, q1, q1', q2, q2', cw.1, cw.2.1, cw.2.2]
                exact ⟨X.length - (i + 1), by omega, hJ2 _ _ _ ⟨_, i + 1, rfl, rfl, hin, rfl, rfl, rfl, rfl, rfl, rfl, rfl⟩⟩
          · have di : decide ((i : Int) < (X.length : Nat)) = false := dec_false (by omega)
            simp [evB, recheck, wantsOp, AV.same, sames, eqCells, eqLeaf, toL_some, asc, fzero, fnone, List.map_cons, List.map_nil, resVals, resVal, resOf, partV, fillA, putCells, fillEls, strBin, minV, optNat, appendEls, elsOf, sliceSlV, sliceStrV, List.replicate, List.getElem?_append_left, List.getElem?_append_right, List.set_append_left, List.set_append_right, List.getElem?_set_self, List.getElem?_set_ne, f1, f4, f5, f11, f12, f13, lw, di, hin]
            refine hR2 _ ?_
            simp [evB, recheck, wantsOp, AV.same, sames, eqCells, eqLeaf, toL_some, asc, fzero, fnone, List.map_cons, List.map_nil, resVals, resVal, resOf, partV, fillA, putCells, fillEls, strBin, minV, optNat, appendEls, elsOf, sliceSlV, sliceStrV, List.replicate, List.getElem?_append_left, List.getElem?_append_right, List.set_append_left, List.set_append_right, List.getElem?_set_self, List.getElem?_set_ne, f1, f4, f5, f11, f12, f13, hwj]
            exact ⟨2 - (j + 1), by omega, hJ _ _ _ ⟨_, j + 1, rfl, rfl, by omega, rfl, rfl, rfl, rfl, rfl⟩⟩
    · obtain rfl : j = 2 := by omega
      simp [evB, recheck, wantsOp, AV.same, sames, eqCells, eqLeaf, toL_some, asc, fzero, fnone, List.map_cons, List.map_nil, resVals, resVal, resOf, partV, fillA, putCells, fillEls, strBin, minV, optNat, appendEls, elsOf, sliceSlV, sliceStrV, List.replicate, List.getElem?_append_left, List.getElem?_append_right, List.set_append_left, List.set_append_right, List.getElem?_set_self, List.getElem?_set_ne, f1, f11, f12, f13]
      refine hR _ ?_
      by_cases t1 : (l.key.length : Int) ≤ 300
      · by_cases t2 : (l.value.length : Int) ≤ 300
        · by_cases t3 : (l.to2.length : Int) ≤ 300
          · by_cases t4 : (l.tv.length : Int) ≤ 300
            · simp [evB, recheck, wantsOp, AV.same, sames, eqCells, eqLeaf, toL_some, asc, fzero, fnone, List.map_cons, List.map_nil, resVals, resVal, resOf, partV, fillA, putCells, fillEls, strBin, minV, optNat, appendEls, elsOf, sliceSlV, sliceStrV, List.replicate, List.getElem?_append_left, List.getElem?_append_right, List.set_append_left, List.set_append_right, List.getElem?_set_self, List.getElem?_set_ne, f1, hK1, get_app hK1, set_app hK1, get_set_same hK1, get_set_app hK1, set_set_app hK1, len_beq hK1, beq_len hK1, t1, t2, t3, t4]
              exact hfin _
            · simp [evB, recheck, wantsOp, AV.same, sames, eqCells, eqLeaf, toL_some, asc, fzero, fnone, List.map_cons, List.map_nil, resVals, resVal, resOf, partV, fillA, putCells, fillEls, strBin, minV, optNat, appendEls, elsOf, sliceSlV, sliceStrV, List.replicate, List.getElem?_append_left, List.getElem?_append_right, List.set_append_left, List.set_append_right, List.getElem?_set_self, List.getElem?_set_ne, f1, hK1, get_app hK1, set_app hK1, get_set_same hK1, get_set_app hK1, set_set_app hK1, len_beq hK1, beq_len hK1, t1, t2, t3, t4]
              exact hfin _
          · simp [evB, recheck, wantsOp, AV.same, sames, eqCells, eqLeaf, toL_some, asc, fzero, fnone, List.map_cons, List.map_nil, resVals, resVal, resOf, partV, fillA, putCells, fillEls, strBin, minV, optNat, appendEls, elsOf, sliceSlV, sliceStrV, List.replicate, List.getElem?_append_left, List.getElem?_append_right, List.set_append_left, List.set_append_right, List.getElem?_set_self, List.getElem?_set_ne, f1, hK1, get_app hK1, set_app hK1, get_set_same hK1, get_set_app hK1, set_set_app hK1, len_beq hK1, beq_len hK1, t1, t2, t3]
            exact hfin _
        · simp [evB, recheck, wantsOp, AV.same, sames, eqCells, eqLeaf, toL_some, asc, fzero, fnone, List.map_cons, List.map_nil, resVals, resVal, resOf, partV, fillA, putCells, fillEls, strBin, minV, optNat, appendEls, elsOf, sliceSlV, sliceStrV, List.replicate, List.getElem?_append_left, List.getElem?_append_right, List.set_append_left, List.set_append_right, List.getElem?_set_self, List.getElem?_set_ne, f1, hK1, get_app hK1, set_app hK1, get_set_same hK1, get_set_app hK1, set_set_app hK1, len_beq hK1, beq_len hK1, t1, t2]
          exact hfin _
      · simp [evB, recheck, wantsOp, AV.same, sames, eqCells, eqLeaf, toL_some, asc, fzero, fnone, List.map_cons, List.map_nil, resVals, resVal, resOf, partV, fillA, putCells, fillEls, strBin, minV, optNat, appendEls, elsOf, sliceSlV, sliceStrV, List.replicate, List.getElem?_append_left, List.getElem?_append_right, List.set_append_left, List.set_append_right, List.getElem?_set_self, List.getElem?_set_ne, f1, hK1, get_app hK1, set_app hK1, get_set_same hK1, get_set_app hK1, set_set_app hK1, len_beq hK1, beq_len hK1, t1]
        exact hfin _
end Go.Proofs.YtgnenipkebelfaaGreatDoor.Lt
