/- Letters: LetterLimits. -/
import Derived.Test.YtgnenipkebelfaaDoorLtN
set_option maxRecDepth 100000
set_option linter.unusedVariables false
set_option linter.unusedSimpArgs false
namespace Go.Proofs.YtgnenipkebelfaaDoor.Lt
open Go Go.Eng F Pk Bk

/-- Letters of the kind 1, with one thing in them. -/
def limL (dst : Int) (key next : List UInt8) (it : List It) : Ltr := ⟨1, 0, dst, 0, 0, key, [], [], 0, 0, [], [], false, next, 0, 0, 0, 0, it, 0, 0⟩
theorem right_key (t : List UInt8) : right (limL 0 t [] []) = decide (t.length ≤ 255) := by
  by_cases h : t.length ≤ 255 <;> simp [right, limL, byteful, numeral, short, itemsOk, h]
theorem right_next (t : List UInt8) : right (limL 0 [] t []) = decide (t.length ≤ 255) := by
  by_cases h : t.length ≤ 255 <;> simp [right, limL, byteful, numeral, short, itemsOk, h]
theorem right_item (t : List UInt8) : right (limL 0 [] [] [([], t)]) = decide (t.length ≤ 255) := by
  by_cases h : t.length ≤ 255 <;> simp [right, limL, byteful, numeral, short, itemsOk, lineOk, h]
theorem right_items (n : Nat) : right (limL 0 [] [] (List.replicate n ([], []))) = decide (n ≤ 40) := by
  by_cases h : n ≤ 40 <;> simp [right, limL, byteful, numeral, short, itemsOk, lineOk, h]
theorem right_dst (n : Nat) : right (limL n [] [] []) = decide (n ≤ 255) := by
  by_cases h : n ≤ 255
  · have h' : (n : Int) ≤ 255 := by omega
    simp [right, limL, byteful, numeral, short, itemsOk, h, h']
  · have h' : ¬ (n : Int) ≤ 255 := by omega
    simp [right, limL, byteful, numeral, short, itemsOk, h, h']
set_option maxHeartbeats 16000000 in
theorem limits_law (n0 : Int) (k : H) : Yld (call fsK exK 6 [.int .i64 n0] k) fun r => r.1 = .bool true := by
  refine yld_shut fun Q hQ => ?_
  have hQ' : ∀ k, Q (.bool true, k) := fun k => hQ _ rfl
  clear hQ
  rw [call_eq fsK exK (f := 6) (sf := sf6) rfl]
  have e1 := k_alive k
  by_cases h1 : n0 < 0
  · simp [sf6, evB, recheck, wantsOp, AV.same, sames, eqCells, eqLeaf, toL_some, asc, fzero, fnone, List.map_cons, List.map_nil, resVals, resVal, resOf, partV, fillA, putCells, fillEls, strBin, minV, optNat, appendEls, elsOf, sliceSlV, sliceStrV, List.replicate, List.getElem?_append_left, List.getElem?_append_right, List.set_append_left, List.set_append_right, List.getElem?_set_self, List.getElem?_set_ne, e1, h1, hQ']
  have d1 : decide (n0 < 0) = false := dec_false h1
  by_cases h2 : 400 < n0
  · simp [sf6, evB, recheck, wantsOp, AV.same, sames, eqCells, eqLeaf, toL_some, asc, fzero, fnone, List.map_cons, List.map_nil, resVals, resVal, resOf, partV, fillA, putCells, fillEls, strBin, minV, optNat, appendEls, elsOf, sliceSlV, sliceStrV, List.replicate, List.getElem?_append_left, List.getElem?_append_right, List.set_append_left, List.set_append_right, List.getElem?_set_self, List.getElem?_set_ne, e1, d1, h2, hQ']
  have d2 : decide (400 < n0) = false := dec_false h2
  obtain ⟨n, rfl⟩ : ∃ n : Nat, n0 = n := ⟨n0.toNat, by omega⟩
  have hn400 : n ≤ 400 := by omega
  have g1 : n ≤ 4294967296 := by omega
  have gg2 : (n : Int) ≤ 4294967296 := by omega
  have hby := bytesA_rep 0 n
  obtain ⟨T, hT⟩ : ∃ T, T = List.replicate n (UInt8.ofNat (0 : Int).toNat) := ⟨_, rfl⟩
  rw [← hT] at hby
  have hTl : T.length = n := by rw [hT]; simp
  clear hT
  simp [evalR, sf6, evB, recheck, wantsOp, AV.same, sames, eqCells, eqLeaf, toL_some, asc, fzero, fnone, List.map_cons, List.map_nil, resVals, resVal, resOf, partV, fillA, putCells, fillEls, strBin, minV, optNat, appendEls, elsOf, sliceSlV, sliceStrV, List.replicate, List.getElem?_append_left, List.getElem?_append_right, List.set_append_left, List.set_append_right, List.getElem?_set_self, List.getElem?_set_ne, e1, d1, d2, g1, gg2, hby, hTl]
  repeat (first | apply yld_endFn | apply yld_seqK | apply yld_blockK | apply yld_regK | apply yld_opsK | apply yld_putK | apply yld_stgK | apply yld_chkK)
  obtain ⟨K0, hK0⟩ : ∃ K, K = k ++ [Blk.row 21 [ltc (limL 0 [] [] []) .nilslice .nilslice] true true, Blk.row 1 (List.replicate n [AV.int .u8 0]) true true, Blk.row 1 [[AV.str T]] true true, Blk.row 1 [[AV.func 17 [AV.ptr (k.length + 2) 0 0]], [AV.func 18 [AV.ptr (k.length + 2) 0 0]], [AV.func 19 [AV.ptr (k.length + 2) 0 0]]] true true] := ⟨_, rfl⟩
  have g0 : K0[k.length]? = some (Blk.row 21 [ltc (limL 0 [] [] []) .nilslice .nilslice] true true) := by rw [hK0]; simp
  have g2 : K0[k.length + 2]? = some (Blk.row 1 [[AV.str T]] true true) := by rw [hK0]; simp
  have g3 : K0[k.length + 3]? = some (Blk.row 1 [[AV.func 17 [AV.ptr (k.length + 2) 0 0]], [AV.func 18 [AV.ptr (k.length + 2) 0 0]], [AV.func 19 [AV.ptr (k.length + 2) 0 0]]] true true) := by rw [hK0]; simp
  unfold ltc limL at hK0
  simp only [Int.natCast_zero] at hK0
  rw [← hK0]
  clear hK0
  have dT : decide ((n : Int) ≤ 255) = decide (T.length ≤ 255) := by
    rw [hTl]
    by_cases h : n ≤ 255
    · rw [dec_true h, dec_true (by omega)]
    · rw [dec_false h, dec_false (by omega)]
  refine yld_rounds (fun m e k' => ∃ f j z, e = toL 62 f ∧ m = 3 - j ∧ j ≤ 3 ∧ f 0 = .int .i64 n ∧ f 3 = .ptr k.length 0 0 ∧ f 28 = .slice (k.length + 3) 1 0 3 3 true ∧ f 29 = .int .i64 3 ∧ f 30 = .int .i64 (j : Nat) ∧ k' = K0 ++ z) (3 - 0) ?_ ?_
  · exact ⟨_, 0, [], rfl, rfl, Nat.zero_le _, rfl, rfl, rfl, rfl, rfl, by simp⟩
  · rintro J R hJ hR m e k' ⟨f, j, z, rfl, rfl, hj, f0, f3, f28, f29, f30, rfl⟩
    have g0' : (K0 ++ z)[k.length]? = _ := get_app g0
    have g2' : (K0 ++ z)[k.length + 2]? = _ := get_app g2
    have g3' : (K0 ++ z)[k.length + 3]? = _ := get_app g3
    obtain ⟨K, hK⟩ : ∃ K, K = K0 ++ z := ⟨_, rfl⟩
    rw [← hK] at g0' g2' g3' ⊢
    by_cases hjn : j < 3
    · rcases (show j = 0 ∨ j = 1 ∨ j = 2 by omega) with rfl | rfl | rfl
      · have e2 := k_Right (k := K ++ [Blk.row 21 [ltc (limL 0 T [] []) .nilslice .nilslice] true true]) (isL_flat (l := limL 0 T [] []) rfl rfl)
        rw [right_key] at e2
        unfold ltc limL at *
        simp [evB, recheck, wantsOp, AV.same, sames, eqCells, eqLeaf, toL_some, asc, fzero, fnone, List.map_cons, List.map_nil, resVals, resVal, resOf, partV, fillA, putCells, fillEls, strBin, minV, optNat, appendEls, elsOf, sliceSlV, sliceStrV, List.replicate, List.getElem?_append_left, List.getElem?_append_right, List.set_append_left, List.set_append_right, List.getElem?_set_self, List.getElem?_set_ne, f0, f3, f28, f29, f30, g0', get_app g0', set_app g0', get_set_same g0', get_set_app g0', set_set_app g0', len_beq g0', beq_len g0', g2', get_app g2', set_app g2', get_set_same g2', get_set_app g2', set_set_app g2', len_beq g2', beq_len g2', g3', get_app g3', set_app g3', get_set_same g3', get_set_app g3', set_set_app g3', len_beq g3', beq_len g3', call_eq fsK exK (f := 17) (sf := sf17) rfl, sf17, e2, dT]
        exact ⟨3 - (0 + 1), by omega, hJ _ _ _ ⟨_, 0 + 1, _, rfl, rfl, by omega, rfl, rfl, rfl, rfl, rfl, by rw [hK, List.append_assoc]⟩⟩
      · have e2 := k_Right (k := K ++ [Blk.row 21 [ltc (limL 0 [] T []) .nilslice .nilslice] true true]) (isL_flat (l := limL 0 [] T []) rfl rfl)
        rw [right_next] at e2
        unfold ltc limL at *
        simp [evB, recheck, wantsOp, AV.same, sames, eqCells, eqLeaf, toL_some, asc, fzero, fnone, List.map_cons, List.map_nil, resVals, resVal, resOf, partV, fillA, putCells, fillEls, strBin, minV, optNat, appendEls, elsOf, sliceSlV, sliceStrV, List.replicate, List.getElem?_append_left, List.getElem?_append_right, List.set_append_left, List.set_append_right, List.getElem?_set_self, List.getElem?_set_ne, f0, f3, f28, f29, f30, g0', get_app g0', set_app g0', get_set_same g0', get_set_app g0', set_set_app g0', len_beq g0', beq_len g0', g2', get_app g2', set_app g2', get_set_same g2', get_set_app g2', set_set_app g2', len_beq g2', beq_len g2', g3', get_app g3', set_app g3', get_set_same g3', get_set_app g3', set_set_app g3', len_beq g3', beq_len g3', call_eq fsK exK (f := 18) (sf := sf18) rfl, sf18, e2, dT]
        exact ⟨3 - (1 + 1), by omega, hJ _ _ _ ⟨_, 1 + 1, _, rfl, rfl, by omega, rfl, rfl, rfl, rfl, rfl, by rw [hK, List.append_assoc]⟩⟩
      · have e2 := k_Right (k := K ++ [Blk.row 21 [ltc (limL 0 [] [] [([], T)]) .nilslice (.slice (K.length + 1) 2 0 1 1 true)] true true, Blk.row 2 [[.str [], .str T]] true true]) (l := limL 0 [] [] [([], T)]) ⟨.nilslice, .slice (K.length + 1) 2 0 1 1 true, rfl, .inl ⟨rfl, rfl⟩, .inr (.inr ⟨K.length + 1, 1, true, [[.str [], .str T]], true, true, rfl, by simp, rfl, by simp [limL]⟩), by simp [limL], by simp [limL]⟩
        rw [right_item] at e2
        unfold ltc limL at *
        simp [evB, recheck, wantsOp, AV.same, sames, eqCells, eqLeaf, toL_some, asc, fzero, fnone, List.map_cons, List.map_nil, resVals, resVal, resOf, partV, fillA, putCells, fillEls, strBin, minV, optNat, appendEls, elsOf, sliceSlV, sliceStrV, List.replicate, List.getElem?_append_left, List.getElem?_append_right, List.set_append_left, List.set_append_right, List.getElem?_set_self, List.getElem?_set_ne, f0, f3, f28, f29, f30, g0', get_app g0', set_app g0', get_set_same g0', get_set_app g0', set_set_app g0', len_beq g0', beq_len g0', g2', get_app g2', set_app g2', get_set_same g2', get_set_app g2', set_set_app g2', len_beq g2', beq_len g2', g3', get_app g3', set_app g3', get_set_same g3', get_set_app g3', set_set_app g3', len_beq g3', beq_len g3', call_eq fsK exK (f := 19) (sf := sf19) rfl, sf19, e2, dT]
        exact hJ _ _ _ ⟨_, 3, _, rfl, rfl, by omega, rfl, rfl, rfl, rfl, rfl, by rw [hK, List.append_assoc]⟩
    · have hj3 : j = 3 := by omega
      subst hj3
      have e2 := k_Right (k := K ++ [Blk.row 21 [ltc (limL 0 [] [] (List.replicate n ([], []))) .nilslice (.slice (K.length + 1) 2 0 n n true)] true true, Blk.row 2 (List.replicate n [.str [], .str []]) true true, Blk.row 21 [ltc (limL n [] [] []) .nilslice .nilslice] true true]) (l := limL 0 [] [] (List.replicate n ([], []))) ⟨.nilslice, .slice (K.length + 1) 2 0 n n true, rfl, .inl ⟨rfl, rfl⟩, .inr (.inr ⟨K.length + 1, n, true, List.replicate n [.str [], .str []], true, true, by simp [limL], by simp, by simp [limL, itc], by simp [limL]⟩), by simp [limL], by simp [limL]; omega⟩
      have e3 := k_Right (k := K ++ [Blk.row 21 [ltc (limL 0 [] [] (List.replicate n ([], []))) .nilslice (.slice (K.length + 1) 2 0 n n true)] true true, Blk.row 2 (List.replicate n [.str [], .str []]) true true, Blk.row 21 [ltc (limL n [] [] []) .nilslice .nilslice] true true]) (isL_flat (l := limL n [] [] []) rfl rfl)
      rw [right_items] at e2
      rw [right_dst] at e3
      have dn : decide ((n : Int) ≤ 40) = decide (n ≤ 40) := by
        by_cases h : n ≤ 40
        · rw [dec_true h, dec_true (by omega)]
        · rw [dec_false h, dec_false (by omega)]
      have dm : decide ((n : Int) ≤ 255) = decide (n ≤ 255) := by rw [dT, hTl]
      clear dT hby
      simp [evB, recheck, wantsOp, AV.same, sames, eqCells, eqLeaf, toL_some, asc, fzero, fnone, List.map_cons, List.map_nil, resVals, resVal, resOf, partV, fillA, putCells, fillEls, strBin, minV, optNat, appendEls, elsOf, sliceSlV, sliceStrV, List.replicate, List.getElem?_append_left, List.getElem?_append_right, List.set_append_left, List.set_append_right, List.getElem?_set_self, List.getElem?_set_ne, f0, f3, f28, f29, f30]
      refine hR _ ?_
      unfold ltc limL at *
      simp [evB, recheck, wantsOp, AV.same, sames, eqCells, eqLeaf, toL_some, asc, fzero, fnone, List.map_cons, List.map_nil, resVals, resVal, resOf, partV, fillA, putCells, fillEls, strBin, minV, optNat, appendEls, elsOf, sliceSlV, sliceStrV, List.replicate, List.getElem?_append_left, List.getElem?_append_right, List.set_append_left, List.set_append_right, List.getElem?_set_self, List.getElem?_set_ne, f0, f3, f28, f29, f30, g0', get_app g0', set_app g0', get_set_same g0', get_set_app g0', set_set_app g0', len_beq g0', beq_len g0', g2', get_app g2', set_app g2', get_set_same g2', get_set_app g2', set_set_app g2', len_beq g2', beq_len g2', g3', get_app g3', set_app g3', get_set_same g3', get_set_app g3', set_set_app g3', len_beq g3', beq_len g3', g1, gg2, e2, e3, dn, dm, hQ']
end Go.Proofs.YtgnenipkebelfaaDoor.Lt
namespace Go.Proofs.YtgnenipkebelfaaDoor.Pure
open Go Go.Eng Lt
theorem LetterLimits : LawOk Tryd.prog 6 F.ss6 := by
  refine ⟨fsK, exK, fsK_ok, exK_ok, fun vs h _ hv => ?_⟩
  simp only [F.ss6, HasVs, HasV, HasF, Has] at hv
  obtain ⟨_, _, rfl, ⟨t, hx, _⟩, rfl⟩ := hv
  cases hx
  exact limits_law t h
end Go.Proofs.YtgnenipkebelfaaDoor.Pure
