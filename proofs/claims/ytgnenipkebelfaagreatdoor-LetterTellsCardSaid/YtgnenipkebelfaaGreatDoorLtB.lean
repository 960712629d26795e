/- Letters: whether all of a list may be. (written by genlt.py) -/
import Derived.Test.YtgnenipkebelfaaGreatDoorLtA
set_option maxRecDepth 100000
set_option linter.unusedVariables false
set_option linter.unusedSimpArgs false
namespace Go.Proofs.YtgnenipkebelfaaGreatDoor.Lt
open Go Go.Eng F Pk Bk

def intc (n : Int) : List AV := [.int .i64 n]
def strc (s : List UInt8) : List AV := [.str s]
def itc (x : It) : List AV := [.str x.1, .str x.2]
set_option maxHeartbeats 4000000 in
theorem index_i {k : H} {v : AV} {L : List (Int)} {G : FuncId} {P : Int → Bool} (hv : RdS k 1 v (L.map intc)) (hl : L.length < 4611686018427387904) (hG : ∀ x ∈ L, ∀ h : H, ∃ z, call Lt.fsA Lt.exA G [.int .i64 x] h = some (.bool (P x), h ++ z)) :
    Yld (call Lt.fsA Lt.exA 109 [v, .func G []] k) fun r => ∃ (i : Int) (z : H), r = (.int .i64 i, k ++ z) ∧ decide (0 ≤ i) = L.any P := by
  refine yld_shut fun Q hQ => ?_
  rw [call_eq Lt.fsA Lt.exA (f := 109) (sf := sf109) rfl]
  have lv := hv.len
  rw [List.length_map] at lv
  simp [sf109, evB, recheck, wantsOp, AV.same, sames, eqCells, eqLeaf, toL_some, asc, fzero, fnone, List.map_cons, List.map_nil, resVals, resVal, resOf, partV, fillA, putCells, fillEls, strBin, minV, optNat, appendEls, elsOf, sliceSlV, sliceStrV, List.replicate, List.getElem?_append_left, List.getElem?_append_right, List.set_append_left, List.set_append_right, List.getElem?_set_self, List.getElem?_set_ne, lv]
  repeat (first | apply yld_endFn | apply yld_seqK | apply yld_blockK | apply yld_regK | apply yld_opsK | apply yld_putK | apply yld_stgK | apply yld_chkK)
  refine yld_rounds (fun m e k' => ∃ f j z, e = toL 19 f ∧ m = L.length - j ∧ j ≤ L.length ∧ f 0 = v ∧ f 1 = .func G [] ∧ f 7 = .int .i64 (L.length : Nat) ∧ f 8 = .int .i64 (j : Nat) ∧ k' = k ++ z ∧ (L.take j).any P = false) (L.length - 0) ?_ ?_
  · exact ⟨_, 0, [], rfl, rfl, Nat.zero_le _, rfl, rfl, rfl, rfl, by simp, rfl⟩
  · rintro J R hJ hR m e k' ⟨f, j, z, rfl, rfl, hj, f0, f1, f7, f8, rfl, hno⟩
    by_cases hjn : j < L.length
    · have d0 : decide ((j : Int) < (L.length : Nat)) = true := dec_true (by omega)
      have hwj : IntKind.i64.wrap ((j : Int) + 1) = ((j + 1 : Nat) : Int) := wrap_i64 (by omega) (by omega)
      obtain ⟨iv, gv⟩ := (rds_app (k := z) hv).idx (i := j) (by rw [List.length_map]; exact hjn)
      have hg : (L.map intc)[j]? = some (intc L[j]) := by simp [hjn]
      rw [hg] at gv
      obtain ⟨z2, hz⟩ := hG L[j] (List.getElem_mem hjn) (k ++ z)
      have hnext : (L.take (j + 1)).any P = P L[j] := by rw [take_succ_get hjn, List.any_append, hno]; simp
      unfold intc at gv
      try unfold intc at hz
      rw [List.append_assoc] at hz
      cases hp : P L[j]
      · rw [hp] at hz hnext
        simp [evB, recheck, wantsOp, AV.same, sames, eqCells, eqLeaf, toL_some, asc, fzero, fnone, List.map_cons, List.map_nil, resVals, resVal, resOf, partV, fillA, putCells, fillEls, strBin, minV, optNat, appendEls, elsOf, sliceSlV, sliceStrV, List.replicate, List.getElem?_append_left, List.getElem?_append_right, List.set_append_left, List.set_append_right, List.getElem?_set_self, List.getElem?_set_ne, f0, f1, f7, f8, lv, iv, gv, d0, hjn, hwj, hz]
        exact ⟨L.length - (j + 1), by omega, hJ _ _ _ ⟨_, j + 1, z ++ z2, rfl, rfl, hjn, rfl, rfl, rfl, rfl, rfl, hnext⟩⟩
      · rw [hp] at hz hnext
        simp [evB, recheck, wantsOp, AV.same, sames, eqCells, eqLeaf, toL_some, asc, fzero, fnone, List.map_cons, List.map_nil, resVals, resVal, resOf, partV, fillA, putCells, fillEls, strBin, minV, optNat, appendEls, elsOf, sliceSlV, sliceStrV, List.replicate, List.getElem?_append_left, List.getElem?_append_right, List.set_append_left, List.set_append_right, List.getElem?_set_self, List.getElem?_set_ne, f0, f1, f7, f8, lv, iv, gv, d0, hjn, hwj, hz]
        refine hR _ ?_
        simp [evB, recheck, wantsOp, AV.same, sames, eqCells, eqLeaf, toL_some, asc, fzero, fnone, List.map_cons, List.map_nil, resVals, resVal, resOf, partV, fillA, putCells, fillEls, strBin, minV, optNat, appendEls, elsOf, sliceSlV, sliceStrV, List.replicate, List.getElem?_append_left, List.getElem?_append_right, List.set_append_left, List.set_append_right, List.getElem?_set_self, List.getElem?_set_ne]
        refine hQ _ ⟨j, z ++ z2, rfl, ?_⟩
        rw [dec_true (by omega)]
        symm
        have : L.any P = true := by rw [← List.take_append_drop (j + 1) L, List.any_append, hnext]; rfl
        exact this
    · have d0 : decide ((j : Int) < (L.length : Nat)) = false := dec_false (by omega)
      simp [evB, recheck, wantsOp, AV.same, sames, eqCells, eqLeaf, toL_some, asc, fzero, fnone, List.map_cons, List.map_nil, resVals, resVal, resOf, partV, fillA, putCells, fillEls, strBin, minV, optNat, appendEls, elsOf, sliceSlV, sliceStrV, List.replicate, List.getElem?_append_left, List.getElem?_append_right, List.set_append_left, List.set_append_right, List.getElem?_set_self, List.getElem?_set_ne, f0, f1, f7, f8, lv, d0, hjn]
      refine hR _ ?_
      simp [evB, recheck, wantsOp, AV.same, sames, eqCells, eqLeaf, toL_some, asc, fzero, fnone, List.map_cons, List.map_nil, resVals, resVal, resOf, partV, fillA, putCells, fillEls, strBin, minV, optNat, appendEls, elsOf, sliceSlV, sliceStrV, List.replicate, List.getElem?_append_left, List.getElem?_append_right, List.set_append_left, List.set_append_right, List.getElem?_set_self, List.getElem?_set_ne, f0, f1]
      refine hQ _ ⟨-1, z, rfl, ?_⟩
      rw [List.take_of_length_le (by omega)] at hno
      rw [hno]; rfl
theorem contains_i {k : H} {v : AV} {L : List (Int)} {G : FuncId} {P : Int → Bool} (hv : RdS k 1 v (L.map intc)) (hl : L.length < 4611686018427387904) (hG : ∀ x ∈ L, ∀ h : H, ∃ z, call Lt.fsA Lt.exA G [.int .i64 x] h = some (.bool (P x), h ++ z)) :
    ∃ z, call Lt.fsA Lt.exA 76 [v, .func G []] k = some (.bool (L.any P), k ++ z) := by
  obtain ⟨_, e, i, z, rfl, h⟩ := index_i hv hl hG
  refine ⟨z, ?_⟩
  rw [call_eq Lt.fsA Lt.exA (f := 76) (sf := sf76) rfl]
  have c := hv.cells
  simp [sf76, evB, recheck, wantsOp, AV.same, sames, eqCells, eqLeaf, toL_some, asc, fzero, fnone, List.map_cons, List.map_nil, resVals, resVal, resOf, partV, fillA, putCells, fillEls, strBin, minV, optNat, appendEls, elsOf, sliceSlV, sliceStrV, List.replicate, List.getElem?_append_left, List.getElem?_append_right, List.set_append_left, List.set_append_right, List.getElem?_set_self, List.getElem?_set_ne, c.1, c.2.1, c.2.2, e, h]
set_option maxHeartbeats 4000000 in
theorem index_s {k : H} {v : AV} {L : List (List UInt8)} {G : FuncId} {P : List UInt8 → Bool} (hv : RdS k 1 v (L.map strc)) (hl : L.length < 4611686018427387904) (hG : ∀ x ∈ L, ∀ h : H, ∃ z, call Lt.fsA Lt.exA G [.str x] h = some (.bool (P x), h ++ z)) :
    Yld (call Lt.fsA Lt.exA 110 [v, .func G []] k) fun r => ∃ (i : Int) (z : H), r = (.int .i64 i, k ++ z) ∧ decide (0 ≤ i) = L.any P := by
  refine yld_shut fun Q hQ => ?_
  rw [call_eq Lt.fsA Lt.exA (f := 110) (sf := sf110) rfl]
  have lv := hv.len
  rw [List.length_map] at lv
  simp [sf110, evB, recheck, wantsOp, AV.same, sames, eqCells, eqLeaf, toL_some, asc, fzero, fnone, List.map_cons, List.map_nil, resVals, resVal, resOf, partV, fillA, putCells, fillEls, strBin, minV, optNat, appendEls, elsOf, sliceSlV, sliceStrV, List.replicate, List.getElem?_append_left, List.getElem?_append_right, List.set_append_left, List.set_append_right, List.getElem?_set_self, List.getElem?_set_ne, lv]
  repeat (first | apply yld_endFn | apply yld_seqK | apply yld_blockK | apply yld_regK | apply yld_opsK | apply yld_putK | apply yld_stgK | apply yld_chkK)
  refine yld_rounds (fun m e k' => ∃ f j z, e = toL 19 f ∧ m = L.length - j ∧ j ≤ L.length ∧ f 0 = v ∧ f 1 = .func G [] ∧ f 7 = .int .i64 (L.length : Nat) ∧ f 8 = .int .i64 (j : Nat) ∧ k' = k ++ z ∧ (L.take j).any P = false) (L.length - 0) ?_ ?_
  · exact ⟨_, 0, [], rfl, rfl, Nat.zero_le _, rfl, rfl, rfl, rfl, by simp, rfl⟩
  · rintro J R hJ hR m e k' ⟨f, j, z, rfl, rfl, hj, f0, f1, f7, f8, rfl, hno⟩
    by_cases hjn : j < L.length
    · have d0 : decide ((j : Int) < (L.length : Nat)) = true := dec_true (by omega)
      have hwj : IntKind.i64.wrap ((j : Int) + 1) = ((j + 1 : Nat) : Int) := wrap_i64 (by omega) (by omega)
      obtain ⟨iv, gv⟩ := (rds_app (k := z) hv).idx (i := j) (by rw [List.length_map]; exact hjn)
      have hg : (L.map strc)[j]? = some (strc L[j]) := by simp [hjn]
      rw [hg] at gv
      obtain ⟨z2, hz⟩ := hG L[j] (List.getElem_mem hjn) (k ++ z)
      have hnext : (L.take (j + 1)).any P = P L[j] := by rw [take_succ_get hjn, List.any_append, hno]; simp
      unfold strc at gv
      try unfold strc at hz
      rw [List.append_assoc] at hz
      cases hp : P L[j]
      · rw [hp] at hz hnext
        simp [evB, recheck, wantsOp, AV.same, sames, eqCells, eqLeaf, toL_some, asc, fzero, fnone, List.map_cons, List.map_nil, resVals, resVal, resOf, partV, fillA, putCells, fillEls, strBin, minV, optNat, appendEls, elsOf, sliceSlV, sliceStrV, List.replicate, List.getElem?_append_left, List.getElem?_append_right, List.set_append_left, List.set_append_right, List.getElem?_set_self, List.getElem?_set_ne, f0, f1, f7, f8, lv, iv, gv, d0, hjn, hwj, hz]
        exact ⟨L.length - (j + 1), by omega, hJ _ _ _ ⟨_, j + 1, z ++ z2, rfl, rfl, hjn, rfl, rfl, rfl, rfl, rfl, hnext⟩⟩
      · rw [hp] at hz hnext
        simp [evB, recheck, wantsOp, AV.same, sames, eqCells, eqLeaf, toL_some, asc, fzero, fnone, List.map_cons, List.map_nil, resVals, resVal, resOf, partV, fillA, putCells, fillEls, strBin, minV, optNat, appendEls, elsOf, sliceSlV, sliceStrV, List.replicate, List.getElem?_append_left, List.getElem?_append_right, List.set_append_left, List.set_append_right, List.getElem?_set_self, List.getElem?_set_ne, f0, f1, f7, f8, lv, iv, gv, d0, hjn, hwj, hz]
        refine hR _ ?_
        simp [evB, recheck, wantsOp, AV.same, sames, eqCells, eqLeaf, toL_some, asc, fzero, fnone, List.map_cons, List.map_nil, resVals, resVal, resOf, partV, fillA, putCells, fillEls, strBin, minV, optNat, appendEls, elsOf, sliceSlV, sliceStrV, List.replicate, List.getElem?_append_left, List.getElem?_append_right, List.set_append_left, List.set_append_right, List.getElem?_set_self, List.getElem?_set_ne]
        refine hQ _ ⟨j, z ++ z2, rfl, ?_⟩
        rw [dec_true (by omega)]
        symm
        have : L.any P = true := by rw [← List.take_append_drop (j + 1) L, List.any_append, hnext]; rfl
        exact this
    · have d0 : decide ((j : Int) < (L.length : Nat)) = false := dec_false (by omega)
      simp [evB, recheck, wantsOp, AV.same, sames, eqCells, eqLeaf, toL_some, asc, fzero, fnone, List.map_cons, List.map_nil, resVals, resVal, resOf, partV, fillA, putCells, fillEls, strBin, minV, optNat, appendEls, elsOf, sliceSlV, sliceStrV, List.replicate, List.getElem?_append_left, List.getElem?_append_right, List.set_append_left, List.set_append_right, List.getElem?_set_self, List.getElem?_set_ne, f0, f1, f7, f8, lv, d0, hjn]
      refine hR _ ?_
      simp [evB, recheck, wantsOp, AV.same, sames, eqCells, eqLeaf, toL_some, asc, fzero, fnone, List.map_cons, List.map_nil, resVals, resVal, resOf, partV, fillA, putCells, fillEls, strBin, minV, optNat, appendEls, elsOf, sliceSlV, sliceStrV, List.replicate, List.getElem?_append_left, List.getElem?_append_right, List.set_append_left, List.set_append_right, List.getElem?_set_self, List.getElem?_set_ne, f0, f1]
      refine hQ _ ⟨-1, z, rfl, ?_⟩
      rw [List.take_of_length_le (by omega)] at hno
      rw [hno]; rfl
theorem contains_s {k : H} {v : AV} {L : List (List UInt8)} {G : FuncId} {P : List UInt8 → Bool} (hv : RdS k 1 v (L.map strc)) (hl : L.length < 4611686018427387904) (hG : ∀ x ∈ L, ∀ h : H, ∃ z, call Lt.fsA Lt.exA G [.str x] h = some (.bool (P x), h ++ z)) :
    ∃ z, call Lt.fsA Lt.exA 79 [v, .func G []] k = some (.bool (L.any P), k ++ z) := by
  obtain ⟨_, e, i, z, rfl, h⟩ := index_s hv hl hG
  refine ⟨z, ?_⟩
  rw [call_eq Lt.fsA Lt.exA (f := 79) (sf := sf79) rfl]
  have c := hv.cells
  simp [sf79, evB, recheck, wantsOp, AV.same, sames, eqCells, eqLeaf, toL_some, asc, fzero, fnone, List.map_cons, List.map_nil, resVals, resVal, resOf, partV, fillA, putCells, fillEls, strBin, minV, optNat, appendEls, elsOf, sliceSlV, sliceStrV, List.replicate, List.getElem?_append_left, List.getElem?_append_right, List.set_append_left, List.set_append_right, List.getElem?_set_self, List.getElem?_set_ne, c.1, c.2.1, c.2.2, e, h]
set_option maxHeartbeats 4000000 in
theorem index_t {k : H} {v : AV} {L : List (It)} {G : FuncId} {P : It → Bool} (hv : RdS k 2 v (L.map itc)) (hl : L.length < 4611686018427387904) (hG : ∀ x ∈ L, ∀ h : H, ∃ z, call Lt.fsA Lt.exA G [.agg (itc x)] h = some (.bool (P x), h ++ z)) :
    Yld (call Lt.fsA Lt.exA 111 [v, .func G []] k) fun r => ∃ (i : Int) (z : H), r = (.int .i64 i, k ++ z) ∧ decide (0 ≤ i) = L.any P := by
  refine yld_shut fun Q hQ => ?_
  rw [call_eq Lt.fsA Lt.exA (f := 111) (sf := sf111) rfl]
  have lv := hv.len
  rw [List.length_map] at lv
  simp [sf111, evB, recheck, wantsOp, AV.same, sames, eqCells, eqLeaf, toL_some, asc, fzero, fnone, List.map_cons, List.map_nil, resVals, resVal, resOf, partV, fillA, putCells, fillEls, strBin, minV, optNat, appendEls, elsOf, sliceSlV, sliceStrV, List.replicate, List.getElem?_append_left, List.getElem?_append_right, List.set_append_left, List.set_append_right, List.getElem?_set_self, List.getElem?_set_ne, lv]
  repeat (first | apply yld_endFn | apply yld_seqK | apply yld_blockK | apply yld_regK | apply yld_opsK | apply yld_putK | apply yld_stgK | apply yld_chkK)
  refine yld_rounds (fun m e k' => ∃ f j z, e = toL 19 f ∧ m = L.length - j ∧ j ≤ L.length ∧ f 0 = v ∧ f 1 = .func G [] ∧ f 7 = .int .i64 (L.length : Nat) ∧ f 8 = .int .i64 (j : Nat) ∧ k' = k ++ z ∧ (L.take j).any P = false) (L.length - 0) ?_ ?_
  · exact ⟨_, 0, [], rfl, rfl, Nat.zero_le _, rfl, rfl, rfl, rfl, by simp, rfl⟩
  · rintro J R hJ hR m e k' ⟨f, j, z, rfl, rfl, hj, f0, f1, f7, f8, rfl, hno⟩
    by_cases hjn : j < L.length
    · have d0 : decide ((j : Int) < (L.length : Nat)) = true := dec_true (by omega)
      have hwj : IntKind.i64.wrap ((j : Int) + 1) = ((j + 1 : Nat) : Int) := wrap_i64 (by omega) (by omega)
      obtain ⟨iv, gv⟩ := (rds_app (k := z) hv).idx (i := j) (by rw [List.length_map]; exact hjn)
      have hg : (L.map itc)[j]? = some (itc L[j]) := by simp [hjn]
      rw [hg] at gv
      obtain ⟨z2, hz⟩ := hG L[j] (List.getElem_mem hjn) (k ++ z)
      have hnext : (L.take (j + 1)).any P = P L[j] := by rw [take_succ_get hjn, List.any_append, hno]; simp
      unfold itc at gv
      try unfold itc at hz
      rw [List.append_assoc] at hz
      cases hp : P L[j]
      · rw [hp] at hz hnext
        simp [evB, recheck, wantsOp, AV.same, sames, eqCells, eqLeaf, toL_some, asc, fzero, fnone, List.map_cons, List.map_nil, resVals, resVal, resOf, partV, fillA, putCells, fillEls, strBin, minV, optNat, appendEls, elsOf, sliceSlV, sliceStrV, List.replicate, List.getElem?_append_left, List.getElem?_append_right, List.set_append_left, List.set_append_right, List.getElem?_set_self, List.getElem?_set_ne, f0, f1, f7, f8, lv, iv, gv, d0, hjn, hwj, hz]
        exact ⟨L.length - (j + 1), by omega, hJ _ _ _ ⟨_, j + 1, z ++ z2, rfl, rfl, hjn, rfl, rfl, rfl, rfl, rfl, hnext⟩⟩
      · rw [hp] at hz hnext
        simp [evB, recheck, wantsOp, AV.same, sames, eqCells, eqLeaf, toL_some, asc, fzero, fnone, List.map_cons, List.map_nil, resVals, resVal, resOf, partV, fillA, putCells, fillEls, strBin, minV, optNat, appendEls, elsOf, sliceSlV, sliceStrV, List.replicate, List.getElem?_append_left, List.getElem?_append_right, List.set_append_left, List.set_append_right, List.getElem?_set_self, List.getElem?_set_ne, f0, f1, f7, f8, lv, iv, gv, d0, hjn, hwj, hz]
        refine hR _ ?_
        simp [evB, recheck, wantsOp, AV.same, sames, eqCells, eqLeaf, toL_some, asc, fzero, fnone, List.map_cons, List.map_nil, resVals, resVal, resOf, partV, fillA, putCells, fillEls, strBin, minV, optNat, appendEls, elsOf, sliceSlV, sliceStrV, List.replicate, List.getElem?_append_left, List.getElem?_append_right, List.set_append_left, List.set_append_right, List.getElem?_set_self, List.getElem?_set_ne]
        refine hQ _ ⟨j, z ++ z2, rfl, ?_⟩
        rw [dec_true (by omega)]
        symm
        have : L.any P = true := by rw [← List.take_append_drop (j + 1) L, List.any_append, hnext]; rfl
        exact this
    · have d0 : decide ((j : Int) < (L.length : Nat)) = false := dec_false (by omega)
      simp [evB, recheck, wantsOp, AV.same, sames, eqCells, eqLeaf, toL_some, asc, fzero, fnone, List.map_cons, List.map_nil, resVals, resVal, resOf, partV, fillA, putCells, fillEls, strBin, minV, optNat, appendEls, elsOf, sliceSlV, sliceStrV, List.replicate, List.getElem?_append_left, List.getElem?_append_right, List.set_append_left, List.set_append_right, List.getElem?_set_self, List.getElem?_set_ne, f0, f1, f7, f8, lv, d0, hjn]
      refine hR _ ?_
      simp [evB, recheck, wantsOp, AV.same, sames, eqCells, eqLeaf, toL_some, asc, fzero, fnone, List.map_cons, List.map_nil, resVals, resVal, resOf, partV, fillA, putCells, fillEls, strBin, minV, optNat, appendEls, elsOf, sliceSlV, sliceStrV, List.replicate, List.getElem?_append_left, List.getElem?_append_right, List.set_append_left, List.set_append_right, List.getElem?_set_self, List.getElem?_set_ne, f0, f1]
      refine hQ _ ⟨-1, z, rfl, ?_⟩
      rw [List.take_of_length_le (by omega)] at hno
      rw [hno]; rfl
theorem contains_t {k : H} {v : AV} {L : List (It)} {G : FuncId} {P : It → Bool} (hv : RdS k 2 v (L.map itc)) (hl : L.length < 4611686018427387904) (hG : ∀ x ∈ L, ∀ h : H, ∃ z, call Lt.fsA Lt.exA G [.agg (itc x)] h = some (.bool (P x), h ++ z)) :
    ∃ z, call Lt.fsA Lt.exA 81 [v, .func G []] k = some (.bool (L.any P), k ++ z) := by
  obtain ⟨_, e, i, z, rfl, h⟩ := index_t hv hl hG
  refine ⟨z, ?_⟩
  rw [call_eq Lt.fsA Lt.exA (f := 81) (sf := sf81) rfl]
  have c := hv.cells
  simp [sf81, evB, recheck, wantsOp, AV.same, sames, eqCells, eqLeaf, toL_some, asc, fzero, fnone, List.map_cons, List.map_nil, resVals, resVal, resOf, partV, fillA, putCells, fillEls, strBin, minV, optNat, appendEls, elsOf, sliceSlV, sliceStrV, List.replicate, List.getElem?_append_left, List.getElem?_append_right, List.set_append_left, List.set_append_right, List.getElem?_set_self, List.getElem?_set_ne, c.1, c.2.1, c.2.2, e, h]
theorem smallP (x : Int) (h : H) : ∃ z, call Lt.fsA Lt.exA 77 [.int .i64 x] h = some (.bool (!byteful x), h ++ z) := by
  rw [call_eq Lt.fsA Lt.exA (f := 77) (sf := sf77) rfl]
  refine ⟨[], ?_⟩
  by_cases h1 : x < 0
  · have : byteful x = false := by simp [byteful]; omega
    simp [sf77, evB, recheck, wantsOp, AV.same, sames, eqCells, eqLeaf, toL_some, asc, fzero, fnone, List.map_cons, List.map_nil, resVals, resVal, resOf, partV, fillA, putCells, fillEls, strBin, minV, optNat, appendEls, elsOf, sliceSlV, sliceStrV, List.replicate, List.getElem?_append_left, List.getElem?_append_right, List.set_append_left, List.set_append_right, List.getElem?_set_self, List.getElem?_set_ne, h1, this]
  · by_cases h2 : 255 < x
    · have : byteful x = false := by simp [byteful]; omega
      simp [sf77, evB, recheck, wantsOp, AV.same, sames, eqCells, eqLeaf, toL_some, asc, fzero, fnone, List.map_cons, List.map_nil, resVals, resVal, resOf, partV, fillA, putCells, fillEls, strBin, minV, optNat, appendEls, elsOf, sliceSlV, sliceStrV, List.replicate, List.getElem?_append_left, List.getElem?_append_right, List.set_append_left, List.set_append_right, List.getElem?_set_self, List.getElem?_set_ne, h1, h2, this]
    · have : byteful x = true := by simp [byteful]; omega
      simp [sf77, evB, recheck, wantsOp, AV.same, sames, eqCells, eqLeaf, toL_some, asc, fzero, fnone, List.map_cons, List.map_nil, resVals, resVal, resOf, partV, fillA, putCells, fillEls, strBin, minV, optNat, appendEls, elsOf, sliceSlV, sliceStrV, List.replicate, List.getElem?_append_left, List.getElem?_append_right, List.set_append_left, List.set_append_right, List.getElem?_set_self, List.getElem?_set_ne, h1, h2, this]
theorem wideP (x : Int) (h : H) : ∃ z, call Lt.fsA Lt.exA 78 [.int .i64 x] h = some (.bool (!numeral x), h ++ z) := by
  rw [call_eq Lt.fsA Lt.exA (f := 78) (sf := sf78) rfl]
  refine ⟨[], ?_⟩
  by_cases h1 : x < 0
  · have : numeral x = false := by simp [numeral]; omega
    simp [sf78, evB, recheck, wantsOp, AV.same, sames, eqCells, eqLeaf, toL_some, asc, fzero, fnone, List.map_cons, List.map_nil, resVals, resVal, resOf, partV, fillA, putCells, fillEls, strBin, minV, optNat, appendEls, elsOf, sliceSlV, sliceStrV, List.replicate, List.getElem?_append_left, List.getElem?_append_right, List.set_append_left, List.set_append_right, List.getElem?_set_self, List.getElem?_set_ne, h1, this]
  · by_cases h2 : 65535 < x
    · have : numeral x = false := by simp [numeral]; omega
      simp [sf78, evB, recheck, wantsOp, AV.same, sames, eqCells, eqLeaf, toL_some, asc, fzero, fnone, List.map_cons, List.map_nil, resVals, resVal, resOf, partV, fillA, putCells, fillEls, strBin, minV, optNat, appendEls, elsOf, sliceSlV, sliceStrV, List.replicate, List.getElem?_append_left, List.getElem?_append_right, List.set_append_left, List.set_append_right, List.getElem?_set_self, List.getElem?_set_ne, h1, h2, this]
    · have : numeral x = true := by simp [numeral]; omega
      simp [sf78, evB, recheck, wantsOp, AV.same, sames, eqCells, eqLeaf, toL_some, asc, fzero, fnone, List.map_cons, List.map_nil, resVals, resVal, resOf, partV, fillA, putCells, fillEls, strBin, minV, optNat, appendEls, elsOf, sliceSlV, sliceStrV, List.replicate, List.getElem?_append_left, List.getElem?_append_right, List.set_append_left, List.set_append_right, List.getElem?_set_self, List.getElem?_set_ne, h1, h2, this]
theorem textP (s : List UInt8) (h : H) : ∃ z, call Lt.fsA Lt.exA 80 [.str s] h = some (.bool (!short s), h ++ z) := by
  rw [call_eq Lt.fsA Lt.exA (f := 80) (sf := sf80) rfl]
  refine ⟨[], ?_⟩
  by_cases h1 : 255 < s.length
  · have h2 : (255 : Int) < s.length := by omega
    have : short s = false := by simp [short]; omega
    simp [sf80, evB, recheck, wantsOp, AV.same, sames, eqCells, eqLeaf, toL_some, asc, fzero, fnone, List.map_cons, List.map_nil, resVals, resVal, resOf, partV, fillA, putCells, fillEls, strBin, minV, optNat, appendEls, elsOf, sliceSlV, sliceStrV, List.replicate, List.getElem?_append_left, List.getElem?_append_right, List.set_append_left, List.set_append_right, List.getElem?_set_self, List.getElem?_set_ne, h1, h2, this]
  · have h2 : ¬ (255 : Int) < s.length := by omega
    have : short s = true := by simp [short]; omega
    simp [sf80, evB, recheck, wantsOp, AV.same, sames, eqCells, eqLeaf, toL_some, asc, fzero, fnone, List.map_cons, List.map_nil, resVals, resVal, resOf, partV, fillA, putCells, fillEls, strBin, minV, optNat, appendEls, elsOf, sliceSlV, sliceStrV, List.replicate, List.getElem?_append_left, List.getElem?_append_right, List.set_append_left, List.set_append_right, List.getElem?_set_self, List.getElem?_set_ne, h1, h2, this]
theorem any_not {α : Type} (L : List α) (P : α → Bool) : (!L.any fun x => !P x) = L.all P := by
  induction L with
  | nil => rfl
  | cons x l ih => simp [← ih]
section
variable {k : H} {v : AV}
theorem small_call {L : List Int} (hv : RdS k 1 v (L.map intc)) (hl : L.length < 4611686018427387904) : ∃ z, call Lt.fsA Lt.exA 28 [v] k = some (.bool (L.all byteful), k ++ z) := by
  obtain ⟨z, e⟩ := contains_i hv hl (G := 77) (fun x _ h => smallP x h)
  refine ⟨z, ?_⟩
  rw [call_eq Lt.fsA Lt.exA (f := 28) (sf := sf28) rfl, ← any_not]
  have c := hv.cells
  simp [sf28, evB, recheck, wantsOp, AV.same, sames, eqCells, eqLeaf, toL_some, asc, fzero, fnone, List.map_cons, List.map_nil, resVals, resVal, resOf, partV, fillA, putCells, fillEls, strBin, minV, optNat, appendEls, elsOf, sliceSlV, sliceStrV, List.replicate, List.getElem?_append_left, List.getElem?_append_right, List.set_append_left, List.set_append_right, List.getElem?_set_self, List.getElem?_set_ne, c.1, c.2.1, c.2.2, e]
theorem wide_call {L : List Int} (hv : RdS k 1 v (L.map intc)) (hl : L.length < 4611686018427387904) : ∃ z, call Lt.fsA Lt.exA 29 [v] k = some (.bool (L.all numeral), k ++ z) := by
  obtain ⟨z, e⟩ := contains_i hv hl (G := 78) (fun x _ h => wideP x h)
  refine ⟨z, ?_⟩
  rw [call_eq Lt.fsA Lt.exA (f := 29) (sf := sf29) rfl, ← any_not]
  have c := hv.cells
  simp [sf29, evB, recheck, wantsOp, AV.same, sames, eqCells, eqLeaf, toL_some, asc, fzero, fnone, List.map_cons, List.map_nil, resVals, resVal, resOf, partV, fillA, putCells, fillEls, strBin, minV, optNat, appendEls, elsOf, sliceSlV, sliceStrV, List.replicate, List.getElem?_append_left, List.getElem?_append_right, List.set_append_left, List.set_append_right, List.getElem?_set_self, List.getElem?_set_ne, c.1, c.2.1, c.2.2, e]
theorem texts_call {L : List (List UInt8)} (hv : RdS k 1 v (L.map strc)) (hl : L.length < 4611686018427387904) : ∃ z, call Lt.fsA Lt.exA 30 [v] k = some (.bool (L.all short), k ++ z) := by
  obtain ⟨z, e⟩ := contains_s hv hl (G := 80) (fun x _ h => textP x h)
  refine ⟨z, ?_⟩
  rw [call_eq Lt.fsA Lt.exA (f := 30) (sf := sf30) rfl, ← any_not]
  have c := hv.cells
  simp [sf30, evB, recheck, wantsOp, AV.same, sames, eqCells, eqLeaf, toL_some, asc, fzero, fnone, List.map_cons, List.map_nil, resVals, resVal, resOf, partV, fillA, putCells, fillEls, strBin, minV, optNat, appendEls, elsOf, sliceSlV, sliceStrV, List.replicate, List.getElem?_append_left, List.getElem?_append_right, List.set_append_left, List.set_append_right, List.getElem?_set_self, List.getElem?_set_ne, c.1, c.2.1, c.2.2, e]
theorem itemP (x : It) (h : H) : ∃ z, call Lt.fsA Lt.exA 82 [.agg (itc x)] h = some (.bool (!lineOk x), h ++ z) := by
  obtain ⟨z, e⟩ := texts_call (k := h ++ [.row 2 [itc x] true true, .row 1 [[.str x.1], [.str x.2]] true true]) (v := .slice (h.length + 1) 1 0 2 2 true) (L := [x.1, x.2]) (.inr (.inr ⟨h.length + 1, 2, true, [[.str x.1], [.str x.2]], true, true, rfl, by simp, rfl, by simp⟩)) (by simp)
  refine ⟨[.row 2 [itc x] true true, .row 1 [[.str x.1], [.str x.2]] true true] ++ z, ?_⟩
  rw [call_eq Lt.fsA Lt.exA (f := 82) (sf := sf82) rfl]
  have hl : ([x.1, x.2].all short) = lineOk x := by simp [lineOk]
  rw [hl] at e
  unfold itc at *
  simp [sf82, evB, recheck, wantsOp, AV.same, sames, eqCells, eqLeaf, toL_some, asc, fzero, fnone, List.map_cons, List.map_nil, resVals, resVal, resOf, partV, fillA, putCells, fillEls, strBin, minV, optNat, appendEls, elsOf, sliceSlV, sliceStrV, List.replicate, List.getElem?_append_left, List.getElem?_append_right, List.set_append_left, List.set_append_right, List.getElem?_set_self, List.getElem?_set_ne, e]
theorem items_call {L : List It} (hv : RdS k 2 v (L.map itc)) (hl : L.length < 4611686018427387904) : ∃ z, call Lt.fsA Lt.exA 31 [v] k = some (.bool (itemsOk L), k ++ z) := by
  obtain ⟨z, e⟩ := contains_t hv hl (G := 82) (fun x _ h => itemP x h)
  have c := hv.cells
  have lv := hv.len
  rw [List.length_map] at lv
  by_cases h40 : L.length ≤ 40
  · have h41 : (L.length : Int) ≤ 40 := by omega
    refine ⟨z, ?_⟩
    have : itemsOk L = !L.any fun x => !lineOk x := by rw [any_not]; simp [itemsOk, h40]
    rw [call_eq Lt.fsA Lt.exA (f := 31) (sf := sf31) rfl, this]
    simp [sf31, evB, recheck, wantsOp, AV.same, sames, eqCells, eqLeaf, toL_some, asc, fzero, fnone, List.map_cons, List.map_nil, resVals, resVal, resOf, partV, fillA, putCells, fillEls, strBin, minV, optNat, appendEls, elsOf, sliceSlV, sliceStrV, List.replicate, List.getElem?_append_left, List.getElem?_append_right, List.set_append_left, List.set_append_right, List.getElem?_set_self, List.getElem?_set_ne, c.1, c.2.1, c.2.2, lv, h40, h41, e]
  · have h41 : ¬ (L.length : Int) ≤ 40 := by omega
    refine ⟨[], ?_⟩
    have : itemsOk L = false := by simp [itemsOk, h40]
    rw [call_eq Lt.fsA Lt.exA (f := 31) (sf := sf31) rfl, this]
    simp [sf31, evB, recheck, wantsOp, AV.same, sames, eqCells, eqLeaf, toL_some, asc, fzero, fnone, List.map_cons, List.map_nil, resVals, resVal, resOf, partV, fillA, putCells, fillEls, strBin, minV, optNat, appendEls, elsOf, sliceSlV, sliceStrV, List.replicate, List.getElem?_append_left, List.getElem?_append_right, List.set_append_left, List.set_append_right, List.getElem?_set_self, List.getElem?_set_ne, c.1, c.2.1, c.2.2, lv, h40, h41]
end
end Go.Proofs.YtgnenipkebelfaaGreatDoor.Lt
