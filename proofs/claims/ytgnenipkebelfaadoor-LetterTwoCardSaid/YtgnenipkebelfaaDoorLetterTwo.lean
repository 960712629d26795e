/- Letters: LetterTwo. -/
import Derived.Test.YtgnenipkebelfaaDoorLtN
set_option maxRecDepth 100000
set_option linter.unusedVariables false
set_option linter.unusedSimpArgs false
namespace Go.Proofs.YtgnenipkebelfaaDoor.Lt
open Go Go.Eng F Pk Bk

set_option maxHeartbeats 16000000 in
theorem two_law {k : H} {c d : List AV} {l m : Ltr} (hc : IsL k c l) (hd : IsL k d m) (wl : Wf l) (wm : Wf m) : Yld (call fsK exK 4 [.agg c, .agg d] k) fun r => r.1 = .bool true := by
  refine yld_shut fun Q hQ => ?_
  have hQ' : ∀ k, Q (.bool true, k) := fun k => hQ _ rfl
  clear hQ
  rw [call_eq fsK exK (f := 4) (sf := sf4) rfl]
  have hc' := hc.app [Blk.row 21 [c] true true, Blk.row 21 [d] true true]
  have hd' := hd.app [Blk.row 21 [c] true true, Blk.row 21 [d] true true]
  obtain ⟨b1, e1⟩ := k_Light hc'
  obtain ⟨b2, e2⟩ := k_Light hd'
  have e3 := k_alive (k ++ [Blk.row 21 [c] true true, Blk.row 21 [d] true true])
  have e4 := k_Put hc'
  have e5 := k_Put hd'
  have e6 := k_same hc' hd'
  have hsame : right l = true → right m = true → (putS l == putS m) = same l m := by
    intro h1 h2
    cases hs : same l m
    · have : ¬ putS l = putS m := fun e => by
        have := put_inj (right_iff.1 h1) wl (right_iff.1 h2) wm (t := []) (u := []) (by rw [e])
        rw [same_iff.2 this.1] at hs; cases hs
      simpa using this
    · have := same_iff.1 hs
      rw [this]; simp
  obtain ⟨v1, v2, rfl, h1, h2, _, _⟩ := hc
  obtain ⟨w1, w2, rfl, g1, g2, _, _⟩ := hd
  have s1 := h1.cells
  have s2 := h2.cells
  have t1 := g1.cells
  have t2 := g2.cells
  clear hc' hd'
  unfold ltc at *
  cases b1
  · simp [sf4, evB, recheck, wantsOp, AV.same, sames, eqCells, eqLeaf, toL_some, asc, fzero, fnone, List.map_cons, List.map_nil, resVals, resVal, resOf, partV, fillA, putCells, fillEls, strBin, minV, optNat, appendEls, elsOf, sliceSlV, sliceStrV, List.replicate, List.getElem?_append_left, List.getElem?_append_right, List.set_append_left, List.set_append_right, List.getElem?_set_self, List.getElem?_set_ne, e1, e3, hQ', s1.1, s1.2.1, s1.2.2, s2.1, s2.2.1, s2.2.2, t1.1, t1.2.1, t1.2.2, t2.1, t2.2.1, t2.2.2]
  cases b2
  · simp [sf4, evB, recheck, wantsOp, AV.same, sames, eqCells, eqLeaf, toL_some, asc, fzero, fnone, List.map_cons, List.map_nil, resVals, resVal, resOf, partV, fillA, putCells, fillEls, strBin, minV, optNat, appendEls, elsOf, sliceSlV, sliceStrV, List.replicate, List.getElem?_append_left, List.getElem?_append_right, List.set_append_left, List.set_append_right, List.getElem?_set_self, List.getElem?_set_ne, e1, e2, e3, hQ', s1.1, s1.2.1, s1.2.2, s2.1, s2.2.1, s2.2.2, t1.1, t1.2.1, t1.2.2, t2.1, t2.2.1, t2.2.2]
  cases hl : right l
  · rw [hl] at e4
    cases hm : right m
    · rw [hm] at e5
      simp [sf4, evB, recheck, wantsOp, AV.same, sames, eqCells, eqLeaf, toL_some, asc, fzero, fnone, List.map_cons, List.map_nil, resVals, resVal, resOf, partV, fillA, putCells, fillEls, strBin, minV, optNat, appendEls, elsOf, sliceSlV, sliceStrV, List.replicate, List.getElem?_append_left, List.getElem?_append_right, List.set_append_left, List.set_append_right, List.getElem?_set_self, List.getElem?_set_ne, e1, e2, e3, e4, e5, hQ', s1.1, s1.2.1, s1.2.2, s2.1, s2.2.1, s2.2.2, t1.1, t1.2.1, t1.2.2, t2.1, t2.2.1, t2.2.2]
    · rw [hm, if_pos rfl] at e5
      simp [sf4, evB, recheck, wantsOp, AV.same, sames, eqCells, eqLeaf, toL_some, asc, fzero, fnone, List.map_cons, List.map_nil, resVals, resVal, resOf, partV, fillA, putCells, fillEls, strBin, minV, optNat, appendEls, elsOf, sliceSlV, sliceStrV, List.replicate, List.getElem?_append_left, List.getElem?_append_right, List.set_append_left, List.set_append_right, List.getElem?_set_self, List.getElem?_set_ne, e1, e2, e3, e4, e5, hQ', s1.1, s1.2.1, s1.2.2, s2.1, s2.2.1, s2.2.2, t1.1, t1.2.1, t1.2.2, t2.1, t2.2.1, t2.2.2]
  · rw [hl, if_pos rfl] at e4
    cases hm : right m
    · rw [hm] at e5
      simp [sf4, evB, recheck, wantsOp, AV.same, sames, eqCells, eqLeaf, toL_some, asc, fzero, fnone, List.map_cons, List.map_nil, resVals, resVal, resOf, partV, fillA, putCells, fillEls, strBin, minV, optNat, appendEls, elsOf, sliceSlV, sliceStrV, List.replicate, List.getElem?_append_left, List.getElem?_append_right, List.set_append_left, List.set_append_right, List.getElem?_set_self, List.getElem?_set_ne, e1, e2, e3, e4, e5, hQ', s1.1, s1.2.1, s1.2.2, s2.1, s2.2.1, s2.2.2, t1.1, t1.2.1, t1.2.2, t2.1, t2.2.1, t2.2.2]
    · rw [hm, if_pos rfl] at e5
      have hp := hsame hl hm
      generalize same l m = q at *
      generalize putS l = p1 at *
      generalize putS m = p2 at *
      cases q
      · have hp2 : (p1 = p2) = False := by simpa using hp
        simp [sf4, evB, recheck, wantsOp, AV.same, sames, eqCells, eqLeaf, toL_some, asc, fzero, fnone, List.map_cons, List.map_nil, resVals, resVal, resOf, partV, fillA, putCells, fillEls, strBin, minV, optNat, appendEls, elsOf, sliceSlV, sliceStrV, List.replicate, List.getElem?_append_left, List.getElem?_append_right, List.set_append_left, List.set_append_right, List.getElem?_set_self, List.getElem?_set_ne, e1, e2, e3, e4, e5, e6, hp, hp2, hQ', s1.1, s1.2.1, s1.2.2, s2.1, s2.2.1, s2.2.2, t1.1, t1.2.1, t1.2.2, t2.1, t2.2.1, t2.2.2]
      · have hp2 : p1 = p2 := by simpa using hp
        subst hp2
        simp [sf4, evB, recheck, wantsOp, AV.same, sames, eqCells, eqLeaf, toL_some, asc, fzero, fnone, List.map_cons, List.map_nil, resVals, resVal, resOf, partV, fillA, putCells, fillEls, strBin, minV, optNat, appendEls, elsOf, sliceSlV, sliceStrV, List.replicate, List.getElem?_append_left, List.getElem?_append_right, List.set_append_left, List.set_append_right, List.getElem?_set_self, List.getElem?_set_ne, e1, e2, e3, e4, e5, e6, hQ', s1.1, s1.2.1, s1.2.2, s2.1, s2.2.1, s2.2.2, t1.1, t1.2.1, t1.2.2, t2.1, t2.2.1, t2.2.2]
end Go.Proofs.YtgnenipkebelfaaDoor.Lt
namespace Go.Proofs.YtgnenipkebelfaaDoor.Pure
open Go Go.Eng Lt
theorem LetterTwo : LawOk Tryd.prog 4 F.ss4 := by
  refine ⟨fsK, exK, fsK_ok, exK_ok, fun vs h _ hv => ?_⟩
  have hs : F.ss4 = [.st shL, .st shL] := rfl
  rw [hs] at hv
  simp only [HasVs, HasV] at hv
  obtain ⟨a, vs1, rfl, ⟨c, rfl, h1⟩, b, vs2, rfl, ⟨d, rfl, h2⟩, rfl⟩ := hv
  obtain ⟨l, hl, wl⟩ := has_letter h1
  obtain ⟨m, hm, wm⟩ := has_letter h2
  exact two_law hl hm wl wm
end Go.Proofs.YtgnenipkebelfaaDoor.Pure
