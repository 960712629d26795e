/- Letters: small checks; a layer that forgets what a call leaves behind. -/
import Derived.Test.YtgnenipkebelfaaGreatDoorLtB
set_option maxRecDepth 100000
set_option linter.unusedVariables false
set_option linter.unusedSimpArgs false
namespace Go.Proofs.YtgnenipkebelfaaGreatDoor.Lt
open Go Go.Eng F Pk Bk

def flatA : AV → Bool
  | .bool _ => true
  | .int _ _ => true
  | .str _ => true
  | .tuple l => l.all fun a => match a with
    | .bool _ => true
    | .int _ _ => true
    | .str _ => true
    | _ => false
  | _ => false
theorem flat_low {v : AV} (h : flatA v = true) (n : Nat) : v.low n = true := by
  cases v with
  | tuple l =>
    simp only [AV.low]
    refine lows_of fun a ha => ?_
    have := List.all_eq_true.1 h a ha
    cases a <;> first | rfl | simp at this
  | bool b => rfl
  | int k a => rfl
  | str s => rfl
  | _ => cases h
open Classical in
/-- Functions that leave all that there is: what they leave behind is forgotten. -/
noncomputable def exDrop (l : List Nat) (cf ex : FuncId → List AV → M AV) : FuncId → List AV → M AV := fun f vs h =>
  if l.contains f then (if hx : ∃ v z, cf f vs h = some (v, h ++ z) ∧ flatA v = true then some (hx.choose, h) else none) else ex f vs h
theorem exDrop_ok {P : Program} {cf ex : FuncId → List AV → M AV} (l : List Nat) (hcf : CfSound P cf) (hex : CfSound P ex) : CfSound P (exDrop l cf ex) := by
  refine join_sound (a := fun f vs h => open Classical in if hx : ∃ v z, cf f vs h = some (v, h ++ z) ∧ flatA v = true then some (hx.choose, h) else none) l (drop_sound hcf ?_) hex
  intro f vs h v h' hr
  split at hr
  · rename_i hx
    cases hr
    obtain ⟨z, h1, h2⟩ := hx.choose_spec
    exact ⟨z, h1, Nat.le_refl _, flat_low h2 _, fun b x hb => .inl hb⟩
  · cases hr
theorem drop_eq {l : List Nat} {cf ex : FuncId → List AV → M AV} {f : FuncId} {vs : List AV} {h z : H} {v : AV} (hf : l.contains f = true) (hc : cf f vs h = some (v, h ++ z)) (hv : flatA v = true) : exDrop l cf ex f vs h = some (v, h) := by
  unfold exDrop
  rw [if_pos hf]
  have hx : ∃ v z, cf f vs h = some (v, h ++ z) ∧ flatA v = true := ⟨v, z, hc, hv⟩
  rw [dif_pos hx]
  obtain ⟨z', h1, h2⟩ := hx.choose_spec
  have h3 := hc.symm.trans h1
  have h4 : v = hx.choose := by
    have := Option.some.inj h3
    exact (Prod.mk.inj this).1
  rw [← h4]

theorem byteful_call (x : Int) (h : H) : ∃ z, call Lt.fsA Lt.exA 25 [.int .i64 x] h = some (.bool (byteful x), h ++ z) := by
  rw [call_eq Lt.fsA Lt.exA (f := 25) (sf := sf25) rfl]
  refine ⟨[], ?_⟩
  by_cases h1 : 0 ≤ x
  · by_cases h2 : x ≤ 255
    · have : byteful x = true := by simp [byteful]; omega
      simp [sf25, evB, recheck, wantsOp, AV.same, sames, eqCells, eqLeaf, toL_some, asc, fzero, fnone, List.map_cons, List.map_nil, resVals, resVal, resOf, partV, fillA, putCells, fillEls, strBin, minV, optNat, appendEls, elsOf, sliceSlV, sliceStrV, List.replicate, List.getElem?_append_left, List.getElem?_append_right, List.set_append_left, List.set_append_right, List.getElem?_set_self, List.getElem?_set_ne, h1, h2, this]
    · have : byteful x = false := by simp [byteful]; omega
      simp [sf25, evB, recheck, wantsOp, AV.same, sames, eqCells, eqLeaf, toL_some, asc, fzero, fnone, List.map_cons, List.map_nil, resVals, resVal, resOf, partV, fillA, putCells, fillEls, strBin, minV, optNat, appendEls, elsOf, sliceSlV, sliceStrV, List.replicate, List.getElem?_append_left, List.getElem?_append_right, List.set_append_left, List.set_append_right, List.getElem?_set_self, List.getElem?_set_ne, h1, h2, this]
  · have : byteful x = false := by simp [byteful]; omega
    simp [sf25, evB, recheck, wantsOp, AV.same, sames, eqCells, eqLeaf, toL_some, asc, fzero, fnone, List.map_cons, List.map_nil, resVals, resVal, resOf, partV, fillA, putCells, fillEls, strBin, minV, optNat, appendEls, elsOf, sliceSlV, sliceStrV, List.replicate, List.getElem?_append_left, List.getElem?_append_right, List.set_append_left, List.set_append_right, List.getElem?_set_self, List.getElem?_set_ne, h1, this]
theorem numeral_call (x : Int) (h : H) : ∃ z, call Lt.fsA Lt.exA 26 [.int .i64 x] h = some (.bool (numeral x), h ++ z) := by
  rw [call_eq Lt.fsA Lt.exA (f := 26) (sf := sf26) rfl]
  refine ⟨[], ?_⟩
  by_cases h1 : 0 ≤ x
  · by_cases h2 : x ≤ 65535
    · have : numeral x = true := by simp [numeral]; omega
      simp [sf26, evB, recheck, wantsOp, AV.same, sames, eqCells, eqLeaf, toL_some, asc, fzero, fnone, List.map_cons, List.map_nil, resVals, resVal, resOf, partV, fillA, putCells, fillEls, strBin, minV, optNat, appendEls, elsOf, sliceSlV, sliceStrV, List.replicate, List.getElem?_append_left, List.getElem?_append_right, List.set_append_left, List.set_append_right, List.getElem?_set_self, List.getElem?_set_ne, h1, h2, this]
    · have : numeral x = false := by simp [numeral]; omega
      simp [sf26, evB, recheck, wantsOp, AV.same, sames, eqCells, eqLeaf, toL_some, asc, fzero, fnone, List.map_cons, List.map_nil, resVals, resVal, resOf, partV, fillA, putCells, fillEls, strBin, minV, optNat, appendEls, elsOf, sliceSlV, sliceStrV, List.replicate, List.getElem?_append_left, List.getElem?_append_right, List.set_append_left, List.set_append_right, List.getElem?_set_self, List.getElem?_set_ne, h1, h2, this]
  · have : numeral x = false := by simp [numeral]; omega
    simp [sf26, evB, recheck, wantsOp, AV.same, sames, eqCells, eqLeaf, toL_some, asc, fzero, fnone, List.map_cons, List.map_nil, resVals, resVal, resOf, partV, fillA, putCells, fillEls, strBin, minV, optNat, appendEls, elsOf, sliceSlV, sliceStrV, List.replicate, List.getElem?_append_left, List.getElem?_append_right, List.set_append_left, List.set_append_right, List.getElem?_set_self, List.getElem?_set_ne, h1, this]
theorem rflag_call (b : Bool) (h : H) : ∃ z, call Lt.fsA Lt.exA 36 [.bool b] h = some (.int .i64 (flagI b), h ++ z) := by
  rw [call_eq Lt.fsA Lt.exA (f := 36) (sf := sf36) rfl]
  refine ⟨[], ?_⟩
  cases b <;> simp [sf36, evB, recheck, wantsOp, AV.same, sames, eqCells, eqLeaf, toL_some, asc, fzero, fnone, List.map_cons, List.map_nil, resVals, resVal, resOf, partV, fillA, putCells, fillEls, strBin, minV, optNat, appendEls, elsOf, sliceSlV, sliceStrV, List.replicate, List.getElem?_append_left, List.getElem?_append_right, List.set_append_left, List.set_append_right, List.getElem?_set_self, List.getElem?_set_ne, flagI]
set_option maxHeartbeats 4000000 in
theorem lines_loop {k : H} {v : AV} {X : List It} (hv : RdS k 2 v (X.map itc)) (hl : X.length < 4611686018427387904) :
    Yld (call Lt.fsA Lt.exA 27 [v] k) fun r => ∃ z, r = (.bool (itemsOk X), k ++ z) := by
  refine yld_shut fun Q hQ => ?_
  rw [call_eq Lt.fsA Lt.exA (f := 27) (sf := sf27) rfl]
  have lv := hv.len
  rw [List.length_map] at lv
  have cv := hv.cells
  simp [sf27, evB, recheck, wantsOp, AV.same, sames, eqCells, eqLeaf, toL_some, asc, fzero, fnone, List.map_cons, List.map_nil, resVals, resVal, resOf, partV, fillA, putCells, fillEls, strBin, minV, optNat, appendEls, elsOf, sliceSlV, sliceStrV, List.replicate, List.getElem?_append_left, List.getElem?_append_right, List.set_append_left, List.set_append_right, List.getElem?_set_self, List.getElem?_set_ne, lv]
  repeat (first | apply yld_endFn | apply yld_seqK | apply yld_blockK | apply yld_regK | apply yld_opsK | apply yld_putK | apply yld_stgK | apply yld_chkK)
  refine yld_rounds (fun m e k' => ∃ f j, e = toL 29 f ∧ m = X.length - j ∧ j ≤ X.length ∧ f 0 = v ∧ f 3 = .int .i64 (j : Nat) ∧ k' = k ∧ (X.take j).all lineOk = true) (X.length - 0) ?_ ?_
  · exact ⟨_, 0, rfl, rfl, Nat.zero_le _, rfl, rfl, rfl, rfl⟩
  · rintro J R hJ hR m e k' ⟨f, j, rfl, rfl, hj, f0, f3, rfl, hno⟩
    by_cases hjn : j < X.length
    · have d0 : decide ((j : Int) < (X.length : Nat)) = true := dec_true (by omega)
      have hwj : IntKind.i64.wrap ((j : Int) + 1) = ((j + 1 : Nat) : Int) := wrap_i64 (by omega) (by omega)
      obtain ⟨iv, gv⟩ := hv.idx (i := j) (by rw [List.length_map]; exact hjn)
      have hg : (X.map itc)[j]? = some (itc X[j]) := by simp [hjn]
      rw [hg] at gv
      unfold itc at gv
      have hbad : lineOk X[j] = false → itemsOk X = false := by
        intro h
        cases hi : itemsOk X
        · rfl
        · simp only [itemsOk, Bool.and_eq_true, List.all_eq_true] at hi
          rw [hi.2 _ (List.getElem_mem hjn)] at h; cases h
      by_cases h1 : 255 < (X[j].1).length
      · have h1' : (255 : Int) < (X[j].1).length := by omega
        have := hbad (by simp [lineOk, short]; omega)
        simp [evB, recheck, wantsOp, AV.same, sames, eqCells, eqLeaf, toL_some, asc, fzero, fnone, List.map_cons, List.map_nil, resVals, resVal, resOf, partV, fillA, putCells, fillEls, strBin, minV, optNat, appendEls, elsOf, sliceSlV, sliceStrV, List.replicate, List.getElem?_append_left, List.getElem?_append_right, List.set_append_left, List.set_append_right, List.getElem?_set_self, List.getElem?_set_ne, f0, f3, lv, iv, gv, d0, hjn, h1, h1', cv.1, cv.2.1, cv.2.2]
        refine hR _ ?_
        simp [evB, recheck, wantsOp, AV.same, sames, eqCells, eqLeaf, toL_some, asc, fzero, fnone, List.map_cons, List.map_nil, resVals, resVal, resOf, partV, fillA, putCells, fillEls, strBin, minV, optNat, appendEls, elsOf, sliceSlV, sliceStrV, List.replicate, List.getElem?_append_left, List.getElem?_append_right, List.set_append_left, List.set_append_right, List.getElem?_set_self, List.getElem?_set_ne]
        exact hQ _ ⟨[], by rw [this]; simp⟩
      · have h1' : ¬ (255 : Int) < (X[j].1).length := by omega
        by_cases h2 : 255 < (X[j].2).length
        · have h2' : (255 : Int) < (X[j].2).length := by omega
          have := hbad (by simp [lineOk, short]; omega)
          simp [evB, recheck, wantsOp, AV.same, sames, eqCells, eqLeaf, toL_some, asc, fzero, fnone, List.map_cons, List.map_nil, resVals, resVal, resOf, partV, fillA, putCells, fillEls, strBin, minV, optNat, appendEls, elsOf, sliceSlV, sliceStrV, List.replicate, List.getElem?_append_left, List.getElem?_append_right, List.set_append_left, List.set_append_right, List.getElem?_set_self, List.getElem?_set_ne, f0, f3, lv, iv, gv, d0, hjn, h1, h1', h2, h2', cv.1, cv.2.1, cv.2.2]
          refine hR _ ?_
          simp [evB, recheck, wantsOp, AV.same, sames, eqCells, eqLeaf, toL_some, asc, fzero, fnone, List.map_cons, List.map_nil, resVals, resVal, resOf, partV, fillA, putCells, fillEls, strBin, minV, optNat, appendEls, elsOf, sliceSlV, sliceStrV, List.replicate, List.getElem?_append_left, List.getElem?_append_right, List.set_append_left, List.set_append_right, List.getElem?_set_self, List.getElem?_set_ne]
          exact hQ _ ⟨[], by rw [this]; simp⟩
        · have h2' : ¬ (255 : Int) < (X[j].2).length := by omega
          have hok : lineOk X[j] = true := by simp [lineOk, short]; omega
          have hnext : (X.take (j + 1)).all lineOk = true := by rw [take_succ_get hjn, List.all_append, hno]; simp [hok]
          simp [evB, recheck, wantsOp, AV.same, sames, eqCells, eqLeaf, toL_some, asc, fzero, fnone, List.map_cons, List.map_nil, resVals, resVal, resOf, partV, fillA, putCells, fillEls, strBin, minV, optNat, appendEls, elsOf, sliceSlV, sliceStrV, List.replicate, List.getElem?_append_left, List.getElem?_append_right, List.set_append_left, List.set_append_right, List.getElem?_set_self, List.getElem?_set_ne, f0, f3, lv, iv, gv, d0, hjn, hwj, h1, h1', h2, h2', cv.1, cv.2.1, cv.2.2]
          exact ⟨X.length - (j + 1), by omega, hJ _ _ _ ⟨_, j + 1, rfl, rfl, hjn, rfl, rfl, rfl, hnext⟩⟩
    · have d0 : decide ((j : Int) < (X.length : Nat)) = false := dec_false (by omega)
      rw [List.take_of_length_le (by omega)] at hno
      simp [evB, recheck, wantsOp, AV.same, sames, eqCells, eqLeaf, toL_some, asc, fzero, fnone, List.map_cons, List.map_nil, resVals, resVal, resOf, partV, fillA, putCells, fillEls, strBin, minV, optNat, appendEls, elsOf, sliceSlV, sliceStrV, List.replicate, List.getElem?_append_left, List.getElem?_append_right, List.set_append_left, List.set_append_right, List.getElem?_set_self, List.getElem?_set_ne, f0, f3, lv, d0, hjn]
      refine hR _ ?_
      have : itemsOk X = decide ((X.length : Int) ≤ 40) := by
        simp only [itemsOk, hno, Bool.and_true]
        by_cases h : X.length ≤ 40
        · rw [dec_true h, dec_true (by omega)]
        · rw [dec_false h, dec_false (by omega)]
      simp [evB, recheck, wantsOp, AV.same, sames, eqCells, eqLeaf, toL_some, asc, fzero, fnone, List.map_cons, List.map_nil, resVals, resVal, resOf, partV, fillA, putCells, fillEls, strBin, minV, optNat, appendEls, elsOf, sliceSlV, sliceStrV, List.replicate, List.getElem?_append_left, List.getElem?_append_right, List.set_append_left, List.set_append_right, List.getElem?_set_self, List.getElem?_set_ne, f0, f3, lv]
      exact hQ _ ⟨[], by rw [this]; simp⟩
theorem lines_call {k : H} {v : AV} {X : List It} (hv : RdS k 2 v (X.map itc)) (hl : X.length < 4611686018427387904) : ∃ z, call Lt.fsA Lt.exA 27 [v] k = some (.bool (itemsOk X), k ++ z) := by
  obtain ⟨_, e, z, rfl⟩ := lines_loop hv hl
  exact ⟨z, e⟩
set_option maxHeartbeats 4000000 in
theorem same_loop {k : H} {v w : AV} {X Y : List It} (hv : RdS k 2 v (X.map itc)) (hw : RdS k 2 w (Y.map itc)) (hl : X.length < 4611686018427387904) :
    Yld (call Lt.fsA Lt.exA 37 [v, w] k) fun r => ∃ z, r = (.bool (decide (X = Y)), k ++ z) := by
  refine yld_shut fun Q hQ => ?_
  rw [call_eq Lt.fsA Lt.exA (f := 37) (sf := sf37) rfl]
  have lv := hv.len
  have lw := hw.len
  rw [List.length_map] at lv lw
  have cv := hv.cells
  have cw := hw.cells
  by_cases hlen : X.length = Y.length
  · have hl2 : ((X.length : Nat) : Int) = (Y.length : Nat) := by omega
    simp [sf37, evB, recheck, wantsOp, AV.same, sames, eqCells, eqLeaf, toL_some, asc, fzero, fnone, List.map_cons, List.map_nil, resVals, resVal, resOf, partV, fillA, putCells, fillEls, strBin, minV, optNat, appendEls, elsOf, sliceSlV, sliceStrV, List.replicate, List.getElem?_append_left, List.getElem?_append_right, List.set_append_left, List.set_append_right, List.getElem?_set_self, List.getElem?_set_ne, lv, lw, hl2, ← hlen]
    repeat (first | apply yld_endFn | apply yld_seqK | apply yld_blockK | apply yld_regK | apply yld_opsK | apply yld_putK | apply yld_stgK | apply yld_chkK)
    refine yld_rounds (fun m e k' => ∃ f j, e = toL 27 f ∧ m = X.length - j ∧ j ≤ X.length ∧ f 0 = v ∧ f 1 = w ∧ f 5 = .int .i64 (j : Nat) ∧ k' = k ∧ X.take j = Y.take j) (X.length - 0) ?_ ?_
    · exact ⟨_, 0, rfl, rfl, Nat.zero_le _, rfl, rfl, rfl, rfl, rfl⟩
    · rintro J R hJ hR m e k' ⟨f, j, rfl, rfl, hj, f0, f1, f5, rfl, heq⟩
      by_cases hjn : j < X.length
      · have d0 : decide ((j : Int) < (X.length : Nat)) = true := dec_true (by omega)
        have d1 : decide ((j : Int) < (Y.length : Nat)) = true := dec_true (by omega)
        have hjy : j < Y.length := by omega
        have hwj : IntKind.i64.wrap ((j : Int) + 1) = ((j + 1 : Nat) : Int) := wrap_i64 (by omega) (by omega)
        obtain ⟨iv, gv⟩ := hv.idx (i := j) (by rw [List.length_map]; exact hjn)
        obtain ⟨iw, gw⟩ := hw.idx (i := j) (by rw [List.length_map]; exact hjy)
        have hg : (X.map itc)[j]? = some (itc X[j]) := by simp [hjn]
        have hg2 : (Y.map itc)[j]? = some (itc Y[j]) := by simp [hjy]
        rw [hg] at gv
        rw [hg2] at gw
        unfold itc at gv gw
        have hne : X[j] ≠ Y[j] → decide (X = Y) = false := by
          intro h
          refine dec_false fun e => h ?_
          subst e; rfl
        by_cases h1 : X[j].1 = Y[j].1
        · by_cases h2 : X[j].2 = Y[j].2
          · have hnext : X.take (j + 1) = Y.take (j + 1) := by rw [take_succ_get hjn, take_succ_get hjy, heq, Prod.ext h1 h2]
            simp [evB, recheck, wantsOp, AV.same, sames, eqCells, eqLeaf, toL_some, asc, fzero, fnone, List.map_cons, List.map_nil, resVals, resVal, resOf, partV, fillA, putCells, fillEls, strBin, minV, optNat, appendEls, elsOf, sliceSlV, sliceStrV, List.replicate, List.getElem?_append_left, List.getElem?_append_right, List.set_append_left, List.set_append_right, List.getElem?_set_self, List.getElem?_set_ne, f0, f1, f5, lv, lw, iv, iw, gv, gw, d0, d1, hjn, hjy, hwj, h1, h2, cv.1, cv.2.1, cv.2.2, cw.1, cw.2.1, cw.2.2]
            exact ⟨X.length - (j + 1), by omega, hJ _ _ _ ⟨_, j + 1, rfl, rfl, hjn, rfl, rfl, rfl, rfl, hnext⟩⟩
          · have := hne (fun e => h2 (by rw [e]))
            have h2b : (X[j].2 == Y[j].2) = false := by simpa using h2
            simp [evB, recheck, wantsOp, AV.same, sames, eqCells, eqLeaf, toL_some, asc, fzero, fnone, List.map_cons, List.map_nil, resVals, resVal, resOf, partV, fillA, putCells, fillEls, strBin, minV, optNat, appendEls, elsOf, sliceSlV, sliceStrV, List.replicate, List.getElem?_append_left, List.getElem?_append_right, List.set_append_left, List.set_append_right, List.getElem?_set_self, List.getElem?_set_ne, f0, f1, f5, lv, lw, iv, iw, gv, gw, d0, d1, hjn, hjy, hwj, h1, h2, h2b, cv.1, cv.2.1, cv.2.2, cw.1, cw.2.1, cw.2.2]
            refine hR _ ?_
            simp [evB, recheck, wantsOp, AV.same, sames, eqCells, eqLeaf, toL_some, asc, fzero, fnone, List.map_cons, List.map_nil, resVals, resVal, resOf, partV, fillA, putCells, fillEls, strBin, minV, optNat, appendEls, elsOf, sliceSlV, sliceStrV, List.replicate, List.getElem?_append_left, List.getElem?_append_right, List.set_append_left, List.set_append_right, List.getElem?_set_self, List.getElem?_set_ne]
            exact hQ _ ⟨[], by rw [this]; simp⟩
        · have := hne (fun e => h1 (by rw [e]))
          have h1b : (X[j].1 == Y[j].1) = false := by simpa using h1
          simp [evB, recheck, wantsOp, AV.same, sames, eqCells, eqLeaf, toL_some, asc, fzero, fnone, List.map_cons, List.map_nil, resVals, resVal, resOf, partV, fillA, putCells, fillEls, strBin, minV, optNat, appendEls, elsOf, sliceSlV, sliceStrV, List.replicate, List.getElem?_append_left, List.getElem?_append_right, List.set_append_left, List.set_append_right, List.getElem?_set_self, List.getElem?_set_ne, f0, f1, f5, lv, lw, iv, iw, gv, gw, d0, d1, hjn, hjy, hwj, h1, h1b, cv.1, cv.2.1, cv.2.2, cw.1, cw.2.1, cw.2.2]
          refine hR _ ?_
          simp [evB, recheck, wantsOp, AV.same, sames, eqCells, eqLeaf, toL_some, asc, fzero, fnone, List.map_cons, List.map_nil, resVals, resVal, resOf, partV, fillA, putCells, fillEls, strBin, minV, optNat, appendEls, elsOf, sliceSlV, sliceStrV, List.replicate, List.getElem?_append_left, List.getElem?_append_right, List.set_append_left, List.set_append_right, List.getElem?_set_self, List.getElem?_set_ne]
          exact hQ _ ⟨[], by rw [this]; simp⟩
      · have d0 : decide ((j : Int) < (X.length : Nat)) = false := dec_false (by omega)
        rw [List.take_of_length_le (by omega), List.take_of_length_le (by omega)] at heq
        simp [evB, recheck, wantsOp, AV.same, sames, eqCells, eqLeaf, toL_some, asc, fzero, fnone, List.map_cons, List.map_nil, resVals, resVal, resOf, partV, fillA, putCells, fillEls, strBin, minV, optNat, appendEls, elsOf, sliceSlV, sliceStrV, List.replicate, List.getElem?_append_left, List.getElem?_append_right, List.set_append_left, List.set_append_right, List.getElem?_set_self, List.getElem?_set_ne, f0, f1, f5, lv, lw, d0, hjn]
        refine hR _ ?_
        simp [evB, recheck, wantsOp, AV.same, sames, eqCells, eqLeaf, toL_some, asc, fzero, fnone, List.map_cons, List.map_nil, resVals, resVal, resOf, partV, fillA, putCells, fillEls, strBin, minV, optNat, appendEls, elsOf, sliceSlV, sliceStrV, List.replicate, List.getElem?_append_left, List.getElem?_append_right, List.set_append_left, List.set_append_right, List.getElem?_set_self, List.getElem?_set_ne]
        exact hQ _ ⟨[], by rw [dec_true heq]; simp⟩
  · have hl2 : ¬ ((X.length : Nat) : Int) = (Y.length : Nat) := by omega
    have : decide (X = Y) = false := dec_false fun e => hlen (by rw [e])
    have hb : (((X.length : Nat) : Int) != (Y.length : Nat)) = true := bne_true hl2
    simp [sf37, evB, recheck, wantsOp, AV.same, sames, eqCells, eqLeaf, toL_some, asc, fzero, fnone, List.map_cons, List.map_nil, resVals, resVal, resOf, partV, fillA, putCells, fillEls, strBin, minV, optNat, appendEls, elsOf, sliceSlV, sliceStrV, List.replicate, List.getElem?_append_left, List.getElem?_append_right, List.set_append_left, List.set_append_right, List.getElem?_set_self, List.getElem?_set_ne, lv, lw, hb]
    exact hQ _ ⟨[], by rw [this]; simp⟩
theorem same_call {k : H} {v w : AV} {X Y : List It} (hv : RdS k 2 v (X.map itc)) (hw : RdS k 2 w (Y.map itc)) (hl : X.length < 4611686018427387904) : ∃ z, call Lt.fsA Lt.exA 37 [v, w] k = some (.bool (decide (X = Y)), k ++ z) := by
  obtain ⟨_, e, z, rfl⟩ := same_loop hv hw hl
  exact ⟨z, e⟩
end Go.Proofs.YtgnenipkebelfaaGreatDoor.Lt
