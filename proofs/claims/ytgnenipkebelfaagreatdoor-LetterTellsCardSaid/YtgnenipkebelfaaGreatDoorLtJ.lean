/- Letters: lists that are read. -/
import Derived.Test.YtgnenipkebelfaaGreatDoorLtI
set_option maxRecDepth 100000
set_option linter.unusedVariables false
set_option linter.unusedSimpArgs false
namespace Go.Proofs.YtgnenipkebelfaaGreatDoor.Lt
open Go Go.Eng F Pk Bk

section
variable {fs : FuncId → Option SFunc} {ex : FuncId → List AV → M AV} {K0 K K' : H} {r q es : Nat} {x x' : Rd} {c : List AV} {Ls : List (AV × List It)}
theorem St.on (s : St K0 K r q es x c Ls) (hc : Chg K K' [r]) (hr : K'[r]? = some x'.blk) (hx : x'.b.length ≤ 281474976710656) : St K0 K' r q es x' c Ls := by
  refine ⟨s.r0, s.q0, hr, hx, hc.2 _ _ (by simpa using s.rq.symm) s.hq, s.chg.trans hc (fun a h => .inl h), fun p hp => ?_, s.apart⟩
  obtain ⟨h1, h2⟩ := s.own p hp
  exact ⟨h1.keep hc fun a ha => by have := (h2 a ha).2; have := s.r0; simp; omega, h2⟩
theorem St.cons (s : St K0 K r q es x c Ls) {v : AV} {X : List It} (ho : OwnE K 2 v (X.map itc)) (hf : ∀ a ∈ foot v, a ≠ q ∧ K0.length ≤ a ∧ ∀ p ∈ Ls, a ∉ foot p.1) : St K0 K r q es x c ((v, X) :: Ls) := by
  refine ⟨s.r0, s.q0, s.hr, s.hx, s.hq, s.chg, fun p hp => ?_, List.pairwise_cons.2 ⟨fun p hp a ha => (hf a ha).2.2 p hp, s.apart⟩⟩
  rcases List.mem_cons.1 hp with rfl | hp
  · exact ⟨ho, fun a ha => ⟨(hf a ha).1, (hf a ha).2.1⟩⟩
  · exact s.own p hp
/-- A list that grows beside a reader. -/
structure Gr (K k : H) (r : Nat) (y : Rd) (v : AV) (o : List It) : Prop where
  hr : k[r]? = some y.blk
  hy : y.b.length ≤ 281474976710656
  chg : Chg K k [r]
  own : OwnE k 2 v (o.map itc)
  new : ∀ a ∈ foot v, K.length ≤ a
theorem Gr.start (s : St K0 K r q es x c Ls) : Gr K K r x .nilslice [] := ⟨s.hr, s.hx, Chg.refl _ _, .inl ⟨rfl, rfl⟩, by simp [foot]⟩
theorem Gr.step {k : H} {y y' : Rd} {v : AV} {o : List It} (g : Gr K k r y v o) (hr : r < K.length) (h : y'.b.length ≤ y.b.length) : Gr K (k.set r y'.blk) r y' v o := by
  have hc : Chg k (k.set r y'.blk) [r] := (Chg.refl _ _).set (.inl (by simp))
  exact ⟨get_set_same g.hr, Nat.le_trans h g.hy, g.chg.set (.inl (by simp)), g.own.keep hc (fun a ha => by have := g.new a ha; simp; omega), g.new⟩
theorem Gr.push {k : H} {y : Rd} {v : AV} {o : List It} (g : Gr K k r y v o) (hr : r < K.length) (a : It) (hl : o.length ≤ 100000) :
    ∃ v' k', appendV 2 false v (.slice k.length 2 0 1 1 true) (k ++ [.row 2 [[.str a.1, .str a.2]] true true]) = some (v', k') ∧ Gr K k' r y v' (o ++ [a]) := by
  obtain ⟨v', k', e, h1, h2, h3⟩ := ownE_append (k := k ++ [.row 2 [[.str a.1, .str a.2]] true true]) (x := .slice k.length 2 0 1 1 true) (X := [[.str a.1, .str a.2]]) (own_app1 g.own)
    (.inr (.inr ⟨k.length, 1, true, [[.str a.1, .str a.2]], true, true, rfl, by simp, rfl, by simp⟩)) (by simp) (by simp [scalar_str]) (by simp; omega)
  have hlt : k.length ≥ K.length := g.chg.1
  refine ⟨v', k', e, h2.2 _ _ (fun hm => by have := g.new _ hm; omega) (get_app g.hr), g.hy, (g.chg.trans (Chg.app k _ [r]) (fun b hb => .inl hb)).trans h2 (fun b hb => .inr (g.new b hb)), ?_, fun b hb => by have := h3 b hb; simp at this; omega⟩
  simpa [itc] using h1
theorem Gr.text {k : H} {y : Rd} {v : AV} {o : List It} (T : TblR fs ex) (g : Gr K k r y v o) (hr : r < K.length) : ∃ k', call fs ex 86 [.ptr r 0 0] k = some (.str y.text.1, k') ∧ Gr K k' r y.text.2 v o :=
  ⟨_, by rw [T.T]; simp only [exR, rdOf_eq g.hr, g.hy, if_true], g.step hr (text_le y)⟩
theorem Gr.rtext {k : H} {y : Rd} {v : AV} {o : List It} (T : TblR fs ex) (g : Gr K k r y v o) (hr : r < K.length) : ∃ k', call fs ex 92 [.ptr r 0 0] k = some (.str y.text.1, k') ∧ Gr K k' r y.text.2 v o :=
  ⟨_, by rw [T.rT]; simp only [exV, rdOf_eq g.hr, g.hy, if_true], g.step hr (text_le y)⟩
theorem Gr.bad {k : H} {y : Rd} {v : AV} {o : List It} (T : TblR fs ex) (g : Gr K k r y v o) : call fs ex 88 [.ptr r 0 0] k = some (.bool y.bad, k) := by
  rw [T.B]; simp only [exR, rdOf_eq g.hr]
theorem Gr.done {k : H} {y : Rd} {v : AV} {o : List It} (s : St K0 K r q es x c Ls) (g : Gr K k r y v o) : St K0 k r q es y c ((v, o) :: Ls) := by
  have hlt : q < K.length := (List.getElem?_eq_some_iff.1 s.hq).1
  have hc0 := s.chg.1
  refine (s.on g.chg g.hr g.hy).cons g.own fun a ha => ?_
  have h := g.new a ha
  refine ⟨by omega, by omega, fun p hp hm => ?_⟩
  have := (s.own p hp).1.lt a hm
  omega
set_option maxHeartbeats 8000000 in
theorem St.list (T : TblR fs ex) (s : St K0 K r q es x c Ls) : Yld (call fs ex 85 [.ptr r 0 0] K) fun res => ∃ v K', res = (v, K') ∧ St K0 K' r q es x.list.2 c ((v, x.list.1) :: Ls) := by
  refine yld_shut fun Q hQ => ?_
  rw [call_eq fs ex (f := 85) (sf := sf85) T.list]
  obtain ⟨K1, e1, s1⟩ := s.num T
  have hrK : r < K1.length := (List.getElem?_eq_some_iff.1 s1.hr).1
  have hn := num_lt x
  simp [sf85, evB, recheck, wantsOp, AV.same, sames, eqCells, eqLeaf, toL_some, asc, fzero, fnone, List.map_cons, List.map_nil, resVals, resVal, resOf, partV, fillA, putCells, fillEls, strBin, minV, optNat, appendEls, elsOf, sliceSlV, sliceStrV, List.replicate, List.getElem?_append_left, List.getElem?_append_right, List.set_append_left, List.set_append_right, List.getElem?_set_self, List.getElem?_set_ne, e1]
  repeat (first | apply yld_endFn | apply yld_seqK | apply yld_blockK | apply yld_regK | apply yld_opsK | apply yld_putK | apply yld_stgK | apply yld_chkK)
  refine yld_rounds (fun m e k' => ∃ f v o y, e = toL 31 f ∧ f 0 = .ptr r 0 0 ∧ f 3 = v ∧ f 4 = .int .i64 (m : Nat) ∧ Gr K1 k' r y v o ∧ o.length ≤ 41 ∧ m ≤ 65535 ∧ listGo m o y = x.list) x.num.1 ?_ ?_
  · exact ⟨_, _, _, _, rfl, rfl, rfl, rfl, Gr.start s1, by simp, hn, rfl⟩
  · rintro J R hJ hR m e k' ⟨f, v, o, y, rfl, f0, f3, f4, g, ho, hm, hgo⟩
    by_cases hm0 : 0 < m
    · obtain ⟨n, rfl⟩ : ∃ n, m = n + 1 := ⟨m - 1, by omega⟩
      have d0 : (0 : Int) < ((n + 1 : Nat) : Int) := by omega
      have hwj : IntKind.i64.wrap (((n + 1 : Nat) : Int) - 1) = ((n : Nat) : Int) := by
        have : ((n + 1 : Nat) : Int) - 1 = ((n : Nat) : Int) := by omega
        rw [this]; exact wrap_i64 (by omega) (by omega)
      obtain ⟨k1, x1, g1⟩ := g.text T hrK
      obtain ⟨k2, x2, g2⟩ := g1.text T hrK
      have x3 := g2.bad T
      have lv := g2.own.rds.len
      rw [List.length_map] at lv
      have cv := g2.own.rds.cells
      unfold listGo at hgo
      generalize hz : y.text.2.text.2 = z at *
      generalize hi : ((n + 1 : Nat) : Int) = i at *
      cases hbad : z.bad
      · rw [hbad] at x3 hgo
        by_cases h40 : 40 < o.length
        · have h41 : (40 : Int) < (o.length : Nat) := by omega
          rw [if_pos (.inr h40)] at hgo
          simp [evB, recheck, wantsOp, AV.same, sames, eqCells, eqLeaf, toL_some, asc, fzero, fnone, List.map_cons, List.map_nil, resVals, resVal, resOf, partV, fillA, putCells, fillEls, strBin, minV, optNat, appendEls, elsOf, sliceSlV, sliceStrV, List.replicate, List.getElem?_append_left, List.getElem?_append_right, List.set_append_left, List.set_append_right, List.getElem?_set_self, List.getElem?_set_ne, f0, f3, f4, d0, x1, x2, x3, lv, h40, h41, cv.1, cv.2.1, cv.2.2]
          refine hR _ ?_
          simp [evB, recheck, wantsOp, AV.same, sames, eqCells, eqLeaf, toL_some, asc, fzero, fnone, List.map_cons, List.map_nil, resVals, resVal, resOf, partV, fillA, putCells, fillEls, strBin, minV, optNat, appendEls, elsOf, sliceSlV, sliceStrV, List.replicate, List.getElem?_append_left, List.getElem?_append_right, List.set_append_left, List.set_append_right, List.getElem?_set_self, List.getElem?_set_ne, f3]
          exact hQ _ ⟨_, _, rfl, by rw [← hgo]; exact g2.done s1⟩
        · have h41 : ¬ (40 : Int) < (o.length : Nat) := by omega
          rw [if_neg (by simp; omega)] at hgo
          obtain ⟨v', k3, ea, g3⟩ := g2.push hrK (y.text.1, y.text.2.text.1) (by omega)
          simp [evB, recheck, wantsOp, AV.same, sames, eqCells, eqLeaf, toL_some, asc, fzero, fnone, List.map_cons, List.map_nil, resVals, resVal, resOf, partV, fillA, putCells, fillEls, strBin, minV, optNat, appendEls, elsOf, sliceSlV, sliceStrV, List.replicate, List.getElem?_append_left, List.getElem?_append_right, List.set_append_left, List.set_append_right, List.getElem?_set_self, List.getElem?_set_ne, f0, f3, f4, d0, x1, x2, x3, lv, h40, h41, hwj, ea, cv.1, cv.2.1, cv.2.2]
          exact ⟨n, by omega, hJ _ _ _ ⟨_, _, _, _, rfl, rfl, rfl, rfl, g3, by simp; omega, by omega, hgo⟩⟩
      · rw [hbad] at x3 hgo
        rw [if_pos (.inl rfl)] at hgo
        simp [evB, recheck, wantsOp, AV.same, sames, eqCells, eqLeaf, toL_some, asc, fzero, fnone, List.map_cons, List.map_nil, resVals, resVal, resOf, partV, fillA, putCells, fillEls, strBin, minV, optNat, appendEls, elsOf, sliceSlV, sliceStrV, List.replicate, List.getElem?_append_left, List.getElem?_append_right, List.set_append_left, List.set_append_right, List.getElem?_set_self, List.getElem?_set_ne, f0, f3, f4, d0, x1, x2, x3, lv, cv.1, cv.2.1, cv.2.2]
        refine hR _ ?_
        simp [evB, recheck, wantsOp, AV.same, sames, eqCells, eqLeaf, toL_some, asc, fzero, fnone, List.map_cons, List.map_nil, resVals, resVal, resOf, partV, fillA, putCells, fillEls, strBin, minV, optNat, appendEls, elsOf, sliceSlV, sliceStrV, List.replicate, List.getElem?_append_left, List.getElem?_append_right, List.set_append_left, List.set_append_right, List.getElem?_set_self, List.getElem?_set_ne, f3]
        exact hQ _ ⟨_, _, rfl, by rw [← hgo]; exact g2.done s1⟩
    · obtain rfl : m = 0 := by omega
      unfold listGo at hgo
      simp [evB, recheck, wantsOp, AV.same, sames, eqCells, eqLeaf, toL_some, asc, fzero, fnone, List.map_cons, List.map_nil, resVals, resVal, resOf, partV, fillA, putCells, fillEls, strBin, minV, optNat, appendEls, elsOf, sliceSlV, sliceStrV, List.replicate, List.getElem?_append_left, List.getElem?_append_right, List.set_append_left, List.set_append_right, List.getElem?_set_self, List.getElem?_set_ne, f0, f3, f4]
      refine hR _ ?_
      simp [evB, recheck, wantsOp, AV.same, sames, eqCells, eqLeaf, toL_some, asc, fzero, fnone, List.map_cons, List.map_nil, resVals, resVal, resOf, partV, fillA, putCells, fillEls, strBin, minV, optNat, appendEls, elsOf, sliceSlV, sliceStrV, List.replicate, List.getElem?_append_left, List.getElem?_append_right, List.set_append_left, List.set_append_right, List.getElem?_set_self, List.getElem?_set_ne, f3]
      exact hQ _ ⟨_, _, rfl, by rw [← hgo]; exact g.done s1⟩
set_option maxHeartbeats 8000000 in
theorem St.ritems (T : TblR fs ex) (s : St K0 K r q es x c Ls) : Yld (call fs ex 91 [.ptr r 0 0] K) fun res => ∃ v K', res = (v, K') ∧ St K0 K' r q es x.rlist.2 c ((v, x.rlist.1) :: Ls) := by
  refine yld_shut fun Q hQ => ?_
  rw [call_eq fs ex (f := 91) (sf := sf91) T.ritems]
  obtain ⟨K1, e1, s1⟩ := s.rnum T
  have hrK : r < K1.length := (List.getElem?_eq_some_iff.1 s1.hr).1
  have hn := num_lt x
  simp [sf91, evB, recheck, wantsOp, AV.same, sames, eqCells, eqLeaf, toL_some, asc, fzero, fnone, List.map_cons, List.map_nil, resVals, resVal, resOf, partV, fillA, putCells, fillEls, strBin, minV, optNat, appendEls, elsOf, sliceSlV, sliceStrV, List.replicate, List.getElem?_append_left, List.getElem?_append_right, List.set_append_left, List.set_append_right, List.getElem?_set_self, List.getElem?_set_ne, e1]
  repeat (first | apply yld_endFn | apply yld_seqK | apply yld_blockK | apply yld_regK | apply yld_opsK | apply yld_putK | apply yld_stgK | apply yld_chkK)
  refine yld_rounds (fun m e k' => ∃ f v o y, e = toL 29 f ∧ f 0 = .ptr r 0 0 ∧ f 3 = .int .i64 (x.num.1 : Nat) ∧ f 4 = v ∧ f 5 = .int .i64 ((x.num.1 - m : Nat) : Int) ∧ Gr K1 k' r y v o ∧ o.length ≤ x.num.1 - m ∧ m ≤ x.num.1 ∧ rlistGo m o y = x.rlist) x.num.1 ?_ ?_
  · refine ⟨_, _, _, _, rfl, rfl, rfl, rfl, ?_, Gr.start s1, by simp, Nat.le_refl _, rfl⟩
    rw [Nat.sub_self]; rfl
  · rintro J R hJ hR m e k' ⟨f, v, o, y, rfl, f0, f3, f4, f5, g, ho, hm, hgo⟩
    have hrow := g.hr
    unfold Rd.blk at hrow
    by_cases hm0 : 0 < m
    · obtain ⟨n, rfl⟩ : ∃ n, m = n + 1 := ⟨m - 1, by omega⟩
      generalize hi : x.num.1 - (n + 1) = i at *
      have d0 : (i : Int) < (x.num.1 : Nat) := by omega
      have d1 : i < x.num.1 := by omega
      have hwj : IntKind.i64.wrap ((i : Int) + 1) = ((x.num.1 - n : Nat) : Int) := by
        have : x.num.1 - n = i + 1 := by omega
        rw [this]; exact wrap_i64 (by omega) (by omega)
      obtain ⟨k1, x1, g1⟩ := g.rtext T hrK
      obtain ⟨k2, x2, g2⟩ := g1.rtext T hrK
      have lv := g2.own.rds.len
      rw [List.length_map] at lv
      have cv := g2.own.rds.cells
      unfold rlistGo at hgo
      cases hbad : y.bad
      · rw [hbad] at hrow hgo
        rw [if_neg (by simp)] at hgo
        obtain ⟨v', k3, ea, g3⟩ := g2.push hrK (y.text.1, y.text.2.text.1) (by omega)
        simp [evB, recheck, wantsOp, AV.same, sames, eqCells, eqLeaf, toL_some, asc, fzero, fnone, List.map_cons, List.map_nil, resVals, resVal, resOf, partV, fillA, putCells, fillEls, strBin, minV, optNat, appendEls, elsOf, sliceSlV, sliceStrV, List.replicate, List.getElem?_append_left, List.getElem?_append_right, List.set_append_left, List.set_append_right, List.getElem?_set_self, List.getElem?_set_ne, f0, f3, f4, f5, d0, d1, x1, x2, hwj, ea, hrow, get_app hrow, set_app hrow, get_set_same hrow, get_set_app hrow, set_set_app hrow, len_beq hrow, beq_len hrow, cv.1, cv.2.1, cv.2.2]
        exact ⟨n, by omega, hJ _ _ _ ⟨_, _, _, _, rfl, rfl, rfl, rfl, rfl, g3, by simp; omega, by omega, hgo⟩⟩
      · rw [hbad] at hrow hgo
        rw [if_pos rfl] at hgo
        simp [evB, recheck, wantsOp, AV.same, sames, eqCells, eqLeaf, toL_some, asc, fzero, fnone, List.map_cons, List.map_nil, resVals, resVal, resOf, partV, fillA, putCells, fillEls, strBin, minV, optNat, appendEls, elsOf, sliceSlV, sliceStrV, List.replicate, List.getElem?_append_left, List.getElem?_append_right, List.set_append_left, List.set_append_right, List.getElem?_set_self, List.getElem?_set_ne, f0, f3, f4, f5, d0, d1, hrow, get_app hrow, set_app hrow, get_set_same hrow, get_set_app hrow, set_set_app hrow, len_beq hrow, beq_len hrow]
        refine hR _ ?_
        simp [evB, recheck, wantsOp, AV.same, sames, eqCells, eqLeaf, toL_some, asc, fzero, fnone, List.map_cons, List.map_nil, resVals, resVal, resOf, partV, fillA, putCells, fillEls, strBin, minV, optNat, appendEls, elsOf, sliceSlV, sliceStrV, List.replicate, List.getElem?_append_left, List.getElem?_append_right, List.set_append_left, List.set_append_right, List.getElem?_set_self, List.getElem?_set_ne, f4]
        exact hQ _ ⟨_, _, rfl, by rw [← hgo]; exact g.done s1⟩
    · obtain rfl : m = 0 := by omega
      unfold rlistGo at hgo
      rw [Nat.sub_zero] at f5
      simp [evB, recheck, wantsOp, AV.same, sames, eqCells, eqLeaf, toL_some, asc, fzero, fnone, List.map_cons, List.map_nil, resVals, resVal, resOf, partV, fillA, putCells, fillEls, strBin, minV, optNat, appendEls, elsOf, sliceSlV, sliceStrV, List.replicate, List.getElem?_append_left, List.getElem?_append_right, List.set_append_left, List.set_append_right, List.getElem?_set_self, List.getElem?_set_ne, f0, f3, f4, f5]
      refine hR _ ?_
      simp [evB, recheck, wantsOp, AV.same, sames, eqCells, eqLeaf, toL_some, asc, fzero, fnone, List.map_cons, List.map_nil, resVals, resVal, resOf, partV, fillA, putCells, fillEls, strBin, minV, optNat, appendEls, elsOf, sliceSlV, sliceStrV, List.replicate, List.getElem?_append_left, List.getElem?_append_right, List.set_append_left, List.set_append_right, List.getElem?_set_self, List.getElem?_set_ne, f4]
      exact hQ _ ⟨_, _, rfl, by rw [← hgo]; exact g.done s1⟩
end
end Go.Proofs.YtgnenipkebelfaaGreatDoor.Lt
