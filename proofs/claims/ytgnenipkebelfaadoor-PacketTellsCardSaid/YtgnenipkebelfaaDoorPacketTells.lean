/- Letters: PacketTells. -/
import Derived.Test.YtgnenipkebelfaaDoorLtY
set_option maxRecDepth 100000
set_option linter.unusedVariables false
set_option linter.unusedSimpArgs false
namespace Go.Proofs.YtgnenipkebelfaaDoor.Lt
open Go Go.Eng F Pk Bk

theorem sameP_rfl (p : Pkt) : sameP p p = true := sameP_iff.2 rfl
set_option maxHeartbeats 16000000 in
theorem ptells_law {k : H} {c : List AV} {p : Pkt} (hc : IsP k c p) (w : Wf p.y) (b : List UInt8) : Yld (call fsP exP 8 [.agg c, .str b] k) fun r => r.1 = .bool true := by
  refine yld_shut fun Q hQ => ?_
  have hQ' : ∀ k, Q (.bool true, k) := fun k => hQ _ rfl
  clear hQ
  rw [call_eq fsP exP (f := 8) (sf := sf8) rfl]
  obtain ⟨v1, v2, rfl, h1, h2, b1, b2⟩ := hc
  have hp : IsP (k ++ [Blk.row 25 [pktc p v1 v2] true true]) (pktc p v1 v2) p := IsP.app ⟨v1, v2, rfl, h1, h2, b1, b2⟩ _
  have hy : IsL (k ++ [Blk.row 25 [pktc p v1 v2] true true]) (ltc p.y v1 v2) p.y := IsL.app ⟨v1, v2, rfl, h1, h2, b1, b2⟩ _
  obtain ⟨q1, e1⟩ := p_Light hy
  have e3 := p_alive (k ++ [Blk.row 25 [pktc p v1 v2] true true])
  have e4 := p_Put hp
  have e5 := p_rPut hp w
  have s1 := h1.cells
  have s2 := h2.cells
  have s3 := s1.1
  cases q1
  · unfold pktc ltc at *
    simp [sf8, evB, recheck, wantsOp, AV.same, sames, eqCells, eqLeaf, toL_some, asc, fzero, fnone, List.map_cons, List.map_nil, resVals, resVal, resOf, partV, fillA, putCells, fillEls, strBin, minV, optNat, appendEls, elsOf, sliceSlV, sliceStrV, List.replicate, List.getElem?_append_left, List.getElem?_append_right, List.set_append_left, List.set_append_right, List.getElem?_set_self, List.getElem?_set_ne, e1, e3, hQ', s1.1, s1.2.1, s1.2.2, s2.1, s2.2.1, s2.2.2]
  by_cases hb : 3000 < b.length
  · have hbi : (3000 : Int) < (b.length : Nat) := by omega
    unfold pktc ltc at *
    simp [sf8, evB, recheck, wantsOp, AV.same, sames, eqCells, eqLeaf, toL_some, asc, fzero, fnone, List.map_cons, List.map_nil, resVals, resVal, resOf, partV, fillA, putCells, fillEls, strBin, minV, optNat, appendEls, elsOf, sliceSlV, sliceStrV, List.replicate, List.getElem?_append_left, List.getElem?_append_right, List.set_append_left, List.set_append_right, List.getElem?_set_self, List.getElem?_set_ne, e1, e3, hb, hbi, hQ', s1.1, s1.2.1, s1.2.2, s2.1, s2.2.1, s2.2.2]
  have hbi : ¬ (3000 : Int) < (b.length : Nat) := by omega
  obtain ⟨S, hS⟩ : ∃ S, S = if rightP p = true then putPS p else [] := ⟨_, rfl⟩
  obtain ⟨ok, hok⟩ : ∃ o, o = rightP p := ⟨_, rfl⟩
  rw [← hok] at hS
  rw [← hok, ← hS] at e4 e5
  have hSl : S.length ≤ 281474976710656 := by
    rw [hS]
    cases ok
    · simp
    · rw [if_pos rfl]; have := putPS_le (rightP_iff.1 hok.symm); omega
  have hback : ok = true → getPS S = (p, true) := fun h => by
    rw [hS, if_pos h]; exact getPS_back (rightP_iff.1 (hok.symm.trans h)) w
  clear hS hok
  obtain ⟨K0, hK0⟩ : ∃ K, K = k ++ [Blk.row 25 [pktc p v1 v2] true true, Blk.row 1 [[AV.str S], [AV.str b]] true true] := ⟨_, rfl⟩
  have g0 : K0[k.length]? = some (Blk.row 25 [pktc p v1 v2] true true) := by rw [hK0]; simp
  have g1 : K0[k.length + 1]? = some (Blk.row 1 [[AV.str S], [AV.str b]] true true) := by rw [hK0]; simp
  have gp : IsP K0 (pktc p v1 v2) p := by rw [hK0]; exact IsP.app ⟨v1, v2, rfl, h1, h2, b1, b2⟩ _
  have hK0' := hK0.symm
  clear hK0 hp hy h1 h2
  have hh : ∀ A B : List AV, pktc p v1 v2 = A → pktc p v1 v2 = A := fun _ _ h => h
  obtain ⟨cp, hcp⟩ : ∃ c, c = pktc p v1 v2 := ⟨_, rfl⟩
  rw [← hcp] at g0 gp
  cases ok <;> (
  unfold pktc ltc at e1 e3 e4 e5 hK0'
  unfold pktc ltc
  simp [sf8, evB, recheck, wantsOp, AV.same, sames, eqCells, eqLeaf, toL_some, asc, fzero, fnone, List.map_cons, List.map_nil, resVals, resVal, resOf, partV, fillA, putCells, fillEls, strBin, minV, optNat, appendEls, elsOf, sliceSlV, sliceStrV, List.replicate, List.getElem?_append_left, List.getElem?_append_right, List.set_append_left, List.set_append_right, List.getElem?_set_self, List.getElem?_set_ne, e1, e3, e4, e5, hb, hbi, hQ', hK0', s1.1, s1.2.1, s1.2.2, s2.1, s2.2.1, s2.2.2])
  · repeat (first | apply yld_endFn | apply yld_seqK | apply yld_blockK | apply yld_regK | apply yld_opsK | apply yld_putK | apply yld_stgK | apply yld_chkK)
    refine yld_rounds (fun m e k' => ∃ f j z, e = toL 93 f ∧ m = 2 - j ∧ j ≤ 2 ∧ f 2 = .ptr k.length 0 0 ∧ f 5 = .str S ∧ f 6 = .bool false ∧ f 49 = .slice (k.length + 1) 1 0 2 2 true ∧ f 50 = .int .i64 2 ∧ f 51 = .int .i64 (j : Nat) ∧ k' = K0 ++ z) (2 - 0) ?_ ?_
    · exact ⟨_, 0, [], rfl, rfl, Nat.zero_le _, rfl, rfl, rfl, rfl, rfl, rfl, by simp⟩
    · rintro J R hJ hR m e k' ⟨f, j, z, rfl, rfl, hj, f2, f5, f6, f49, f50, f51, rfl⟩
      by_cases hjn : j < 2
      · have d0 : decide ((j : Int) < 2) = true := dec_true (by omega)
        have hji : (j : Int) < 2 := by omega
        have hwj : IntKind.i64.wrap ((j : Int) + 1) = ((j + 1 : Nat) : Int) := wrap_i64 (by omega) (by omega)
        obtain ⟨cc, hcc, hcg, hcs⟩ : ∃ cc : List UInt8, cc.length ≤ 281474976710656 ∧ [[AV.str S], [AV.str b]][j]? = some [AV.str cc] ∧ (cc = S ∨ cc = cc) := by
          rcases (show j = 0 ∨ j = 1 by omega) with rfl | rfl
          · exact ⟨S, hSl, rfl, .inl rfl⟩
          · exact ⟨b, by omega, rfl, .inr rfl⟩
        have hcg' : [[AV.str S], [AV.str b]][j] = [AV.str cc] := by
          have := List.getElem?_eq_getElem (l := [[AV.str S], [AV.str b]]) (i := j) hjn
          rw [hcg] at this
          exact (Option.some.inj this).symm
        have g0' := (get_app g0 : (K0 ++ z)[k.length]? = _)
        have g1' := (get_app g1 : (K0 ++ z)[k.length + 1]? = _)
        have gp' := gp.app z
        obtain ⟨K, hK⟩ : ∃ K, K = K0 ++ z := ⟨_, rfl⟩
        rw [← hK] at g0' g1' gp' ⊢
        obtain ⟨c, z2, e6, i6⟩ := GetPacket_call cc hcc K
        obtain ⟨x, hx⟩ : ∃ x, x = getPS cc := ⟨_, rfl⟩
        rw [← hx] at e6 i6
        obtain ⟨K1, hK1⟩ : ∃ K1, K1 = K ++ z2 := ⟨_, rfl⟩
        rw [← hK1] at e6 i6
        have i6' := i6.app [Blk.row 25 [c] true true]
        obtain ⟨d, z3, e7, i7⟩ := rGetPacket_call cc hcc (K1 ++ [Blk.row 25 [c] true true])
        rw [getPR_eq, ← hx] at e7 i7
        obtain ⟨K2, hK2⟩ : ∃ K2, K2 = (K1 ++ [Blk.row 25 [c] true true]) ++ z3 := ⟨_, rfl⟩
        rw [← hK2] at e7 i7
        have i6'' := (i6'.app z3).app [Blk.row 25 [d] true true]
        rw [← hK2] at i6''
        have i7' := i7.app [Blk.row 25 [d] true true]
        have gp'' := (((gp'.app z2).app [Blk.row 25 [c] true true]).app z3).app [Blk.row 25 [d] true true]
        rw [← hK1, ← hK2] at gp''
        have e8 := p_same i6'' i7'
        have e9 := p_same i6'' gp''
        rw [sameP_rfl] at e8
        have r1 : (K1 ++ [Blk.row 25 [c] true true])[K1.length]? = some (Blk.row 25 [c] true true) := by simp
        have r1' : K2[K1.length]? = some (Blk.row 25 [c] true true) := by rw [hK2]; exact get_app r1
        have r0' : K2[k.length]? = some (Blk.row 25 [cp] true true) := by rw [hK2, hK1, List.append_assoc, List.append_assoc]; exact get_app g0'
        have hend : K2 ++ [Blk.row 25 [d] true true] = K0 ++ (z ++ (z2 ++ ([Blk.row 25 [c] true true] ++ (z3 ++ [Blk.row 25 [d] true true])))) := by rw [hK2, hK1, hK]; simp only [List.append_assoc]
        have hb0 : cc = S → false = true → x = (p, true) := fun h1 h2 => by rw [hx, h1]; exact hback h2
        obtain ⟨u1, u2, hc, o1, o2, _, _⟩ := i6
        obtain ⟨w1, w2, hd, m1, m2, _, _⟩ := i7
        have t1 := o1.cells
        have t2 := o2.cells
        have y1 := m1.cells
        have y2 := m2.cells
        clear hK hK1 hK2 hcg hcs
        have hnext : ∃ z', K0 ++ (z ++ (z2 ++ ([Blk.row 25 [c] true true] ++ (z3 ++ [Blk.row 25 [d] true true])))) = K0 ++ z' := ⟨_, rfl⟩
        clear i6' i6'' i7' gp'' gp' g0' hx
        by_cases hce : cc = S
        · have hce' : (cc == S) = true := by simpa using hce
          subst hce
          cases hx2 : x.2 <;> rw [hx2] at e6 e7 <;> (
          subst hc hd hcp
          unfold pktc ltc at *
          simp [evB, recheck, wantsOp, AV.same, sames, eqCells, eqLeaf, toL_some, asc, fzero, fnone, List.map_cons, List.map_nil, resVals, resVal, resOf, partV, fillA, putCells, fillEls, strBin, minV, optNat, appendEls, elsOf, sliceSlV, sliceStrV, List.replicate, List.getElem?_append_left, List.getElem?_append_right, List.set_append_left, List.set_append_right, List.getElem?_set_self, List.getElem?_set_ne, f2, f5, f6, f49, f50, f51, d0, hji, hjn, hwj, g1', get_app g1', set_app g1', get_set_same g1', get_set_app g1', set_set_app g1', len_beq g1', beq_len g1', hcg', e6, e7, e8, e9, hce', r1, get_app r1, set_app r1, get_set_same r1, get_set_app r1, set_set_app r1, len_beq r1, beq_len r1, r1', get_app r1', set_app r1', get_set_same r1', get_set_app r1', set_set_app r1', len_beq r1', beq_len r1', r0', get_app r0', set_app r0', get_set_same r0', get_set_app r0', set_set_app r0', len_beq r0', beq_len r0', t1.1, t1.2.1, t1.2.2, t2.1, t2.2.1, t2.2.2, y1.1, y1.2.1, y1.2.2, y2.1, y2.2.1, y2.2.2]
          exact ⟨2 - (j + 1), by omega, hJ _ _ _ ⟨_, j + 1, _, rfl, rfl, hjn, rfl, rfl, rfl, rfl, rfl, rfl, by simpa using hend⟩⟩)
        · have hce' : (cc == S) = false := by simpa using hce
          cases hx2 : x.2 <;> rw [hx2] at e6 e7 <;> (
          subst hc hd hcp
          unfold pktc ltc at *
          simp [evB, recheck, wantsOp, AV.same, sames, eqCells, eqLeaf, toL_some, asc, fzero, fnone, List.map_cons, List.map_nil, resVals, resVal, resOf, partV, fillA, putCells, fillEls, strBin, minV, optNat, appendEls, elsOf, sliceSlV, sliceStrV, List.replicate, List.getElem?_append_left, List.getElem?_append_right, List.set_append_left, List.set_append_right, List.getElem?_set_self, List.getElem?_set_ne, f2, f5, f6, f49, f50, f51, d0, hji, hjn, hwj, g1', get_app g1', set_app g1', get_set_same g1', get_set_app g1', set_set_app g1', len_beq g1', beq_len g1', hcg', e6, e7, e8, e9, hce, hce', r1, get_app r1, set_app r1, get_set_same r1, get_set_app r1, set_set_app r1, len_beq r1, beq_len r1, r1', get_app r1', set_app r1', get_set_same r1', get_set_app r1', set_set_app r1', len_beq r1', beq_len r1', r0', get_app r0', set_app r0', get_set_same r0', get_set_app r0', set_set_app r0', len_beq r0', beq_len r0', t1.1, t1.2.1, t1.2.2, t2.1, t2.2.1, t2.2.2, y1.1, y1.2.1, y1.2.2, y2.1, y2.2.1, y2.2.2]
          exact ⟨2 - (j + 1), by omega, hJ _ _ _ ⟨_, j + 1, _, rfl, rfl, hjn, rfl, rfl, rfl, rfl, rfl, rfl, by simpa using hend⟩⟩)
      · have hj2 : j = 2 := by omega
        subst hj2
        simp [evB, recheck, wantsOp, AV.same, sames, eqCells, eqLeaf, toL_some, asc, fzero, fnone, List.map_cons, List.map_nil, resVals, resVal, resOf, partV, fillA, putCells, fillEls, strBin, minV, optNat, appendEls, elsOf, sliceSlV, sliceStrV, List.replicate, List.getElem?_append_left, List.getElem?_append_right, List.set_append_left, List.set_append_right, List.getElem?_set_self, List.getElem?_set_ne, f2, f5, f6, f49, f50, f51]
        refine hR _ ?_
        simp [evB, recheck, wantsOp, AV.same, sames, eqCells, eqLeaf, toL_some, asc, fzero, fnone, List.map_cons, List.map_nil, resVals, resVal, resOf, partV, fillA, putCells, fillEls, strBin, minV, optNat, appendEls, elsOf, sliceSlV, sliceStrV, List.replicate, List.getElem?_append_left, List.getElem?_append_right, List.set_append_left, List.set_append_right, List.getElem?_set_self, List.getElem?_set_ne]
        exact hQ' _
  · repeat (first | apply yld_endFn | apply yld_seqK | apply yld_blockK | apply yld_regK | apply yld_opsK | apply yld_putK | apply yld_stgK | apply yld_chkK)
    refine yld_rounds (fun m e k' => ∃ f j z, e = toL 93 f ∧ m = 2 - j ∧ j ≤ 2 ∧ f 2 = .ptr k.length 0 0 ∧ f 5 = .str S ∧ f 6 = .bool true ∧ f 49 = .slice (k.length + 1) 1 0 2 2 true ∧ f 50 = .int .i64 2 ∧ f 51 = .int .i64 (j : Nat) ∧ k' = K0 ++ z) (2 - 0) ?_ ?_
    · exact ⟨_, 0, [], rfl, rfl, Nat.zero_le _, rfl, rfl, rfl, rfl, rfl, rfl, by simp⟩
    · rintro J R hJ hR m e k' ⟨f, j, z, rfl, rfl, hj, f2, f5, f6, f49, f50, f51, rfl⟩
      by_cases hjn : j < 2
      · have d0 : decide ((j : Int) < 2) = true := dec_true (by omega)
        have hji : (j : Int) < 2 := by omega
        have hwj : IntKind.i64.wrap ((j : Int) + 1) = ((j + 1 : Nat) : Int) := wrap_i64 (by omega) (by omega)
        obtain ⟨cc, hcc, hcg, hcs⟩ : ∃ cc : List UInt8, cc.length ≤ 281474976710656 ∧ [[AV.str S], [AV.str b]][j]? = some [AV.str cc] ∧ (cc = S ∨ cc = cc) := by
          rcases (show j = 0 ∨ j = 1 by omega) with rfl | rfl
          · exact ⟨S, hSl, rfl, .inl rfl⟩
          · exact ⟨b, by omega, rfl, .inr rfl⟩
        have hcg' : [[AV.str S], [AV.str b]][j] = [AV.str cc] := by
          have := List.getElem?_eq_getElem (l := [[AV.str S], [AV.str b]]) (i := j) hjn
          rw [hcg] at this
          exact (Option.some.inj this).symm
        have g0' := (get_app g0 : (K0 ++ z)[k.length]? = _)
        have g1' := (get_app g1 : (K0 ++ z)[k.length + 1]? = _)
        have gp' := gp.app z
        obtain ⟨K, hK⟩ : ∃ K, K = K0 ++ z := ⟨_, rfl⟩
        rw [← hK] at g0' g1' gp' ⊢
        obtain ⟨c, z2, e6, i6⟩ := GetPacket_call cc hcc K
        obtain ⟨x, hx⟩ : ∃ x, x = getPS cc := ⟨_, rfl⟩
        rw [← hx] at e6 i6
        obtain ⟨K1, hK1⟩ : ∃ K1, K1 = K ++ z2 := ⟨_, rfl⟩
        rw [← hK1] at e6 i6
        have i6' := i6.app [Blk.row 25 [c] true true]
        obtain ⟨d, z3, e7, i7⟩ := rGetPacket_call cc hcc (K1 ++ [Blk.row 25 [c] true true])
        rw [getPR_eq, ← hx] at e7 i7
        obtain ⟨K2, hK2⟩ : ∃ K2, K2 = (K1 ++ [Blk.row 25 [c] true true]) ++ z3 := ⟨_, rfl⟩
        rw [← hK2] at e7 i7
        have i6'' := (i6'.app z3).app [Blk.row 25 [d] true true]
        rw [← hK2] at i6''
        have i7' := i7.app [Blk.row 25 [d] true true]
        have gp'' := (((gp'.app z2).app [Blk.row 25 [c] true true]).app z3).app [Blk.row 25 [d] true true]
        rw [← hK1, ← hK2] at gp''
        have e8 := p_same i6'' i7'
        have e9 := p_same i6'' gp''
        rw [sameP_rfl] at e8
        have r1 : (K1 ++ [Blk.row 25 [c] true true])[K1.length]? = some (Blk.row 25 [c] true true) := by simp
        have r1' : K2[K1.length]? = some (Blk.row 25 [c] true true) := by rw [hK2]; exact get_app r1
        have r0' : K2[k.length]? = some (Blk.row 25 [cp] true true) := by rw [hK2, hK1, List.append_assoc, List.append_assoc]; exact get_app g0'
        have hend : K2 ++ [Blk.row 25 [d] true true] = K0 ++ (z ++ (z2 ++ ([Blk.row 25 [c] true true] ++ (z3 ++ [Blk.row 25 [d] true true])))) := by rw [hK2, hK1, hK]; simp only [List.append_assoc]
        have hb0 : cc = S → true = true → x = (p, true) := fun h1 h2 => by rw [hx, h1]; exact hback h2
        obtain ⟨u1, u2, hc, o1, o2, _, _⟩ := i6
        obtain ⟨w1, w2, hd, m1, m2, _, _⟩ := i7
        have t1 := o1.cells
        have t2 := o2.cells
        have y1 := m1.cells
        have y2 := m2.cells
        clear hK hK1 hK2 hcg hcs
        have hnext : ∃ z', K0 ++ (z ++ (z2 ++ ([Blk.row 25 [c] true true] ++ (z3 ++ [Blk.row 25 [d] true true])))) = K0 ++ z' := ⟨_, rfl⟩
        clear i6' i6'' i7' gp'' gp' g0' hx
        by_cases hce : cc = S
        · have hce' : (cc == S) = true := by simpa using hce
          obtain rfl := hb0 hce rfl
          subst hce
          rw [sameP_rfl] at e9
          subst hc hd hcp
          unfold pktc ltc at *
          simp [evB, recheck, wantsOp, AV.same, sames, eqCells, eqLeaf, toL_some, asc, fzero, fnone, List.map_cons, List.map_nil, resVals, resVal, resOf, partV, fillA, putCells, fillEls, strBin, minV, optNat, appendEls, elsOf, sliceSlV, sliceStrV, List.replicate, List.getElem?_append_left, List.getElem?_append_right, List.set_append_left, List.set_append_right, List.getElem?_set_self, List.getElem?_set_ne, f2, f5, f6, f49, f50, f51, d0, hji, hjn, hwj, g1', get_app g1', set_app g1', get_set_same g1', get_set_app g1', set_set_app g1', len_beq g1', beq_len g1', hcg', e6, e7, e8, e9, hce', r1, get_app r1, set_app r1, get_set_same r1, get_set_app r1, set_set_app r1, len_beq r1, beq_len r1, r1', get_app r1', set_app r1', get_set_same r1', get_set_app r1', set_set_app r1', len_beq r1', beq_len r1', r0', get_app r0', set_app r0', get_set_same r0', get_set_app r0', set_set_app r0', len_beq r0', beq_len r0', t1.1, t1.2.1, t1.2.2, t2.1, t2.2.1, t2.2.2, y1.1, y1.2.1, y1.2.2, y2.1, y2.2.1, y2.2.2]
          exact ⟨2 - (j + 1), by omega, hJ _ _ _ ⟨_, j + 1, _, rfl, rfl, hjn, rfl, rfl, rfl, rfl, rfl, rfl, by simpa using hend⟩⟩
        · have hce' : (cc == S) = false := by simpa using hce
          cases hx2 : x.2 <;> rw [hx2] at e6 e7 <;> (
          subst hc hd hcp
          unfold pktc ltc at *
          simp [evB, recheck, wantsOp, AV.same, sames, eqCells, eqLeaf, toL_some, asc, fzero, fnone, List.map_cons, List.map_nil, resVals, resVal, resOf, partV, fillA, putCells, fillEls, strBin, minV, optNat, appendEls, elsOf, sliceSlV, sliceStrV, List.replicate, List.getElem?_append_left, List.getElem?_append_right, List.set_append_left, List.set_append_right, List.getElem?_set_self, List.getElem?_set_ne, f2, f5, f6, f49, f50, f51, d0, hji, hjn, hwj, g1', get_app g1', set_app g1', get_set_same g1', get_set_app g1', set_set_app g1', len_beq g1', beq_len g1', hcg', e6, e7, e8, e9, hce, hce', r1, get_app r1, set_app r1, get_set_same r1, get_set_app r1, set_set_app r1, len_beq r1, beq_len r1, r1', get_app r1', set_app r1', get_set_same r1', get_set_app r1', set_set_app r1', len_beq r1', beq_len r1', r0', get_app r0', set_app r0', get_set_same r0', get_set_app r0', set_set_app r0', len_beq r0', beq_len r0', t1.1, t1.2.1, t1.2.2, t2.1, t2.2.1, t2.2.2, y1.1, y1.2.1, y1.2.2, y2.1, y2.2.1, y2.2.2]
          exact ⟨2 - (j + 1), by omega, hJ _ _ _ ⟨_, j + 1, _, rfl, rfl, hjn, rfl, rfl, rfl, rfl, rfl, rfl, by simpa using hend⟩⟩)
      · have hj2 : j = 2 := by omega
        subst hj2
        simp [evB, recheck, wantsOp, AV.same, sames, eqCells, eqLeaf, toL_some, asc, fzero, fnone, List.map_cons, List.map_nil, resVals, resVal, resOf, partV, fillA, putCells, fillEls, strBin, minV, optNat, appendEls, elsOf, sliceSlV, sliceStrV, List.replicate, List.getElem?_append_left, List.getElem?_append_right, List.set_append_left, List.set_append_right, List.getElem?_set_self, List.getElem?_set_ne, f2, f5, f6, f49, f50, f51]
        refine hR _ ?_
        simp [evB, recheck, wantsOp, AV.same, sames, eqCells, eqLeaf, toL_some, asc, fzero, fnone, List.map_cons, List.map_nil, resVals, resVal, resOf, partV, fillA, putCells, fillEls, strBin, minV, optNat, appendEls, elsOf, sliceSlV, sliceStrV, List.replicate, List.getElem?_append_left, List.getElem?_append_right, List.set_append_left, List.set_append_right, List.getElem?_set_self, List.getElem?_set_ne]
        exact hQ' _
end Go.Proofs.YtgnenipkebelfaaDoor.Lt
namespace Go.Proofs.YtgnenipkebelfaaDoor.Pure
open Go Go.Eng Lt
theorem PacketTells : LawOk Tryd.prog 8 F.ss8 := by
  refine ⟨fsP, exP, fsP_ok, exP_ok, fun vs h _ hv => ?_⟩
  have hs : F.ss8 = [.st shP, .str] := rfl
  rw [hs] at hv
  simp only [HasVs, HasV] at hv
  obtain ⟨_, _, rfl, ⟨c, rfl, h1⟩, _, _, rfl, h2, rfl⟩ := hv
  simp only [Has] at h2
  obtain ⟨b, e2, _⟩ := h2
  cases e2
  obtain ⟨p, hp, wp⟩ := has_packet h1
  exact ptells_law hp wp b
end Go.Proofs.YtgnenipkebelfaaDoor.Pure
