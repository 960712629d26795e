/- Letters: the letter of nothing; what is told (written by genlt2.py) -/
import Derived.Test.YtgnenipkebelfaaDoorLtD
set_option maxRecDepth 100000
set_option linter.unusedVariables false
set_option linter.unusedSimpArgs false
namespace Go.Proofs.YtgnenipkebelfaaDoor.Lt
open Go Go.Eng F Pk Bk


set_option maxHeartbeats 16000000 in
theorem none_call {k : H} {c : List AV} {l : Ltr} (hc : IsL k c l) : ∃ z, call fsB exB 41 [.agg c] k = some (.bool (zeroL l), k ++ z) := by
  obtain ⟨v1, v2, rfl, h1, h2, b1, b2⟩ := hc
  have s1 := h1.cells
  have s2 := h2.cells
  have l1 := h1.len
  have l2 := h2.len
  rw [List.length_map] at l1 l2
  rw [call_eq fsB exB (f := 41) (sf := sf41) rfl]
  unfold zeroL
  unfold ltc at *
  have x1 : (0 < l.it.length ∧ (0 : Int) < (l.it.length : Nat) ∧ ¬ l.it.length = 0 ∧ ¬ (l.it.length : Int) = 0 ∧ ¬ l.it = []) ∨ (¬ (0 : Int) < (l.it.length : Nat) ∧ l.it.length = 0) := by
    by_cases h : l.it.length = 0
    · exact .inr ⟨by omega, h⟩
    · exact .inl ⟨by omega, by omega, h, by omega, fun e => h (by rw [e]; rfl)⟩
  have x2 : (0 < l.ti.length ∧ (0 : Int) < (l.ti.length : Nat) ∧ ¬ l.ti.length = 0 ∧ ¬ (l.ti.length : Int) = 0 ∧ ¬ l.ti = []) ∨ (¬ (0 : Int) < (l.ti.length : Nat) ∧ l.ti.length = 0) := by
    by_cases h : l.ti.length = 0
    · exact .inr ⟨by omega, h⟩
    · exact .inl ⟨by omega, by omega, h, by omega, fun e => h (by rw [e]; rfl)⟩
  rcases x1 with ⟨y1, y2, y3, y4, y5⟩ | ⟨y1, y2⟩
  · simp [sf41, evB, recheck, wantsOp, AV.same, sames, eqCells, eqLeaf, toL_some, asc, fzero, fnone, List.map_cons, List.map_nil, resVals, resVal, resOf, partV, fillA, putCells, fillEls, strBin, minV, optNat, appendEls, elsOf, sliceSlV, sliceStrV, List.replicate, List.getElem?_append_left, List.getElem?_append_right, List.set_append_left, List.set_append_right, List.getElem?_set_self, List.getElem?_set_ne, l1, l2, y1, y2, y3, y4, y5, s1.1, s1.2.1, s1.2.2, s2.1, s2.2.1, s2.2.2]
  rcases x2 with ⟨w1, w2, w3, w4, w5⟩ | ⟨w1, w2⟩
  · simp [sf41, evB, recheck, wantsOp, AV.same, sames, eqCells, eqLeaf, toL_some, asc, fzero, fnone, List.map_cons, List.map_nil, resVals, resVal, resOf, partV, fillA, putCells, fillEls, strBin, minV, optNat, appendEls, elsOf, sliceSlV, sliceStrV, List.replicate, List.getElem?_append_left, List.getElem?_append_right, List.set_append_left, List.set_append_right, List.getElem?_set_self, List.getElem?_set_ne, l1, l2, y1, y2, w1, w2, w3, w4, w5, s1.1, s1.2.1, s1.2.2, s2.1, s2.2.1, s2.2.2]
  by_cases c0 : l.kind = 0
  rotate_left
  · have c0' : (l.kind == 0) = false := by simpa using c0
    simp [sf41, evB, recheck, wantsOp, AV.same, sames, eqCells, eqLeaf, toL_some, asc, fzero, fnone, List.map_cons, List.map_nil, resVals, resVal, resOf, partV, fillA, putCells, fillEls, strBin, minV, optNat, appendEls, elsOf, sliceSlV, sliceStrV, List.replicate, List.getElem?_append_left, List.getElem?_append_right, List.set_append_left, List.set_append_right, List.getElem?_set_self, List.getElem?_set_ne, l1, l2, y1, y2, w1, w2, c0, c0', s1.1, s1.2.1, s1.2.2, s2.1, s2.2.1, s2.2.2]
  have c0' : (l.kind == 0) = true := by simpa using c0
  by_cases c1 : l.frm = 0
  rotate_left
  · have c1' : (l.frm == 0) = false := by simpa using c1
    simp [sf41, evB, recheck, wantsOp, AV.same, sames, eqCells, eqLeaf, toL_some, asc, fzero, fnone, List.map_cons, List.map_nil, resVals, resVal, resOf, partV, fillA, putCells, fillEls, strBin, minV, optNat, appendEls, elsOf, sliceSlV, sliceStrV, List.replicate, List.getElem?_append_left, List.getElem?_append_right, List.set_append_left, List.set_append_right, List.getElem?_set_self, List.getElem?_set_ne, l1, l2, y1, y2, w1, w2, c0, c0', c1, c1', s1.1, s1.2.1, s1.2.2, s2.1, s2.2.1, s2.2.2]
  have c1' : (l.frm == 0) = true := by simpa using c1
  by_cases c2 : l.dst = 0
  rotate_left
  · have c2' : (l.dst == 0) = false := by simpa using c2
    simp [sf41, evB, recheck, wantsOp, AV.same, sames, eqCells, eqLeaf, toL_some, asc, fzero, fnone, List.map_cons, List.map_nil, resVals, resVal, resOf, partV, fillA, putCells, fillEls, strBin, minV, optNat, appendEls, elsOf, sliceSlV, sliceStrV, List.replicate, List.getElem?_append_left, List.getElem?_append_right, List.set_append_left, List.set_append_right, List.getElem?_set_self, List.getElem?_set_ne, l1, l2, y1, y2, w1, w2, c0, c0', c1, c1', c2, c2', s1.1, s1.2.1, s1.2.2, s2.1, s2.2.1, s2.2.2]
  have c2' : (l.dst == 0) = true := by simpa using c2
  by_cases c3 : l.id = 0
  rotate_left
  · have c3' : (l.id == 0) = false := by simpa using c3
    simp [sf41, evB, recheck, wantsOp, AV.same, sames, eqCells, eqLeaf, toL_some, asc, fzero, fnone, List.map_cons, List.map_nil, resVals, resVal, resOf, partV, fillA, putCells, fillEls, strBin, minV, optNat, appendEls, elsOf, sliceSlV, sliceStrV, List.replicate, List.getElem?_append_left, List.getElem?_append_right, List.set_append_left, List.set_append_right, List.getElem?_set_self, List.getElem?_set_ne, l1, l2, y1, y2, w1, w2, c0, c0', c1, c1', c2, c2', c3, c3', s1.1, s1.2.1, s1.2.2, s2.1, s2.2.1, s2.2.2]
  have c3' : (l.id == 0) = true := by simpa using c3
  by_cases c4 : l.op = 0
  rotate_left
  · have c4' : (l.op == 0) = false := by simpa using c4
    simp [sf41, evB, recheck, wantsOp, AV.same, sames, eqCells, eqLeaf, toL_some, asc, fzero, fnone, List.map_cons, List.map_nil, resVals, resVal, resOf, partV, fillA, putCells, fillEls, strBin, minV, optNat, appendEls, elsOf, sliceSlV, sliceStrV, List.replicate, List.getElem?_append_left, List.getElem?_append_right, List.set_append_left, List.set_append_right, List.getElem?_set_self, List.getElem?_set_ne, l1, l2, y1, y2, w1, w2, c0, c0', c1, c1', c2, c2', c3, c3', c4, c4', s1.1, s1.2.1, s1.2.2, s2.1, s2.2.1, s2.2.2]
  have c4' : (l.op == 0) = true := by simpa using c4
  by_cases c5 : l.key = []
  rotate_left
  · have c5' : (l.key == []) = false := by simpa using c5
    simp [sf41, evB, recheck, wantsOp, AV.same, sames, eqCells, eqLeaf, toL_some, asc, fzero, fnone, List.map_cons, List.map_nil, resVals, resVal, resOf, partV, fillA, putCells, fillEls, strBin, minV, optNat, appendEls, elsOf, sliceSlV, sliceStrV, List.replicate, List.getElem?_append_left, List.getElem?_append_right, List.set_append_left, List.set_append_right, List.getElem?_set_self, List.getElem?_set_ne, l1, l2, y1, y2, w1, w2, c0, c0', c1, c1', c2, c2', c3, c3', c4, c4', c5, c5', s1.1, s1.2.1, s1.2.2, s2.1, s2.2.1, s2.2.2]
  have c5' : (l.key == []) = true := by simpa using c5
  by_cases c6 : l.value = []
  rotate_left
  · have c6' : (l.value == []) = false := by simpa using c6
    simp [sf41, evB, recheck, wantsOp, AV.same, sames, eqCells, eqLeaf, toL_some, asc, fzero, fnone, List.map_cons, List.map_nil, resVals, resVal, resOf, partV, fillA, putCells, fillEls, strBin, minV, optNat, appendEls, elsOf, sliceSlV, sliceStrV, List.replicate, List.getElem?_append_left, List.getElem?_append_right, List.set_append_left, List.set_append_right, List.getElem?_set_self, List.getElem?_set_ne, l1, l2, y1, y2, w1, w2, c0, c0', c1, c1', c2, c2', c3, c3', c4, c4', c5, c5', c6, c6', s1.1, s1.2.1, s1.2.2, s2.1, s2.2.1, s2.2.2]
  have c6' : (l.value == []) = true := by simpa using c6
  by_cases c7 : l.to2 = []
  rotate_left
  · have c7' : (l.to2 == []) = false := by simpa using c7
    simp [sf41, evB, recheck, wantsOp, AV.same, sames, eqCells, eqLeaf, toL_some, asc, fzero, fnone, List.map_cons, List.map_nil, resVals, resVal, resOf, partV, fillA, putCells, fillEls, strBin, minV, optNat, appendEls, elsOf, sliceSlV, sliceStrV, List.replicate, List.getElem?_append_left, List.getElem?_append_right, List.set_append_left, List.set_append_right, List.getElem?_set_self, List.getElem?_set_ne, l1, l2, y1, y2, w1, w2, c0, c0', c1, c1', c2, c2', c3, c3', c4, c4', c5, c5', c6, c6', c7, c7', s1.1, s1.2.1, s1.2.2, s2.1, s2.2.1, s2.2.2]
  have c7' : (l.to2 == []) = true := by simpa using c7
  by_cases c8 : l.most = 0
  rotate_left
  · have c8' : (l.most == 0) = false := by simpa using c8
    simp [sf41, evB, recheck, wantsOp, AV.same, sames, eqCells, eqLeaf, toL_some, asc, fzero, fnone, List.map_cons, List.map_nil, resVals, resVal, resOf, partV, fillA, putCells, fillEls, strBin, minV, optNat, appendEls, elsOf, sliceSlV, sliceStrV, List.replicate, List.getElem?_append_left, List.getElem?_append_right, List.set_append_left, List.set_append_right, List.getElem?_set_self, List.getElem?_set_ne, l1, l2, y1, y2, w1, w2, c0, c0', c1, c1', c2, c2', c3, c3', c4, c4', c5, c5', c6, c6', c7, c7', c8, c8', s1.1, s1.2.1, s1.2.2, s2.1, s2.2.1, s2.2.2]
  have c8' : (l.most == 0) = true := by simpa using c8
  by_cases c9 : l.af = 0
  rotate_left
  · have c9' : (l.af == 0) = false := by simpa using c9
    simp [sf41, evB, recheck, wantsOp, AV.same, sames, eqCells, eqLeaf, toL_some, asc, fzero, fnone, List.map_cons, List.map_nil, resVals, resVal, resOf, partV, fillA, putCells, fillEls, strBin, minV, optNat, appendEls, elsOf, sliceSlV, sliceStrV, List.replicate, List.getElem?_append_left, List.getElem?_append_right, List.set_append_left, List.set_append_right, List.getElem?_set_self, List.getElem?_set_ne, l1, l2, y1, y2, w1, w2, c0, c0', c1, c1', c2, c2', c3, c3', c4, c4', c5, c5', c6, c6', c7, c7', c8, c8', c9, c9', s1.1, s1.2.1, s1.2.2, s2.1, s2.2.1, s2.2.2]
  have c9' : (l.af == 0) = true := by simpa using c9
  by_cases c10 : l.at_ = 0
  rotate_left
  · have c10' : (l.at_ == 0) = false := by simpa using c10
    simp [sf41, evB, recheck, wantsOp, AV.same, sames, eqCells, eqLeaf, toL_some, asc, fzero, fnone, List.map_cons, List.map_nil, resVals, resVal, resOf, partV, fillA, putCells, fillEls, strBin, minV, optNat, appendEls, elsOf, sliceSlV, sliceStrV, List.replicate, List.getElem?_append_left, List.getElem?_append_right, List.set_append_left, List.set_append_right, List.getElem?_set_self, List.getElem?_set_ne, l1, l2, y1, y2, w1, w2, c0, c0', c1, c1', c2, c2', c3, c3', c4, c4', c5, c5', c6, c6', c7, c7', c8, c8', c9, c9', c10, c10', s1.1, s1.2.1, s1.2.2, s2.1, s2.2.1, s2.2.2]
  have c10' : (l.at_ == 0) = true := by simpa using c10
  by_cases c11 : l.ep = 0
  rotate_left
  · have c11' : (l.ep == 0) = false := by simpa using c11
    simp [sf41, evB, recheck, wantsOp, AV.same, sames, eqCells, eqLeaf, toL_some, asc, fzero, fnone, List.map_cons, List.map_nil, resVals, resVal, resOf, partV, fillA, putCells, fillEls, strBin, minV, optNat, appendEls, elsOf, sliceSlV, sliceStrV, List.replicate, List.getElem?_append_left, List.getElem?_append_right, List.set_append_left, List.set_append_right, List.getElem?_set_self, List.getElem?_set_ne, l1, l2, y1, y2, w1, w2, c0, c0', c1, c1', c2, c2', c3, c3', c4, c4', c5, c5', c6, c6', c7, c7', c8, c8', c9, c9', c10, c10', c11, c11', s1.1, s1.2.1, s1.2.2, s2.1, s2.2.1, s2.2.2]
  have c11' : (l.ep == 0) = true := by simpa using c11
  by_cases c12 : l.n = 0
  rotate_left
  · have c12' : (l.n == 0) = false := by simpa using c12
    simp [sf41, evB, recheck, wantsOp, AV.same, sames, eqCells, eqLeaf, toL_some, asc, fzero, fnone, List.map_cons, List.map_nil, resVals, resVal, resOf, partV, fillA, putCells, fillEls, strBin, minV, optNat, appendEls, elsOf, sliceSlV, sliceStrV, List.replicate, List.getElem?_append_left, List.getElem?_append_right, List.set_append_left, List.set_append_right, List.getElem?_set_self, List.getElem?_set_ne, l1, l2, y1, y2, w1, w2, c0, c0', c1, c1', c2, c2', c3, c3', c4, c4', c5, c5', c6, c6', c7, c7', c8, c8', c9, c9', c10, c10', c11, c11', c12, c12', s1.1, s1.2.1, s1.2.2, s2.1, s2.2.1, s2.2.2]
  have c12' : (l.n == 0) = true := by simpa using c12
  by_cases c13 : l.node = 0
  rotate_left
  · have c13' : (l.node == 0) = false := by simpa using c13
    simp [sf41, evB, recheck, wantsOp, AV.same, sames, eqCells, eqLeaf, toL_some, asc, fzero, fnone, List.map_cons, List.map_nil, resVals, resVal, resOf, partV, fillA, putCells, fillEls, strBin, minV, optNat, appendEls, elsOf, sliceSlV, sliceStrV, List.replicate, List.getElem?_append_left, List.getElem?_append_right, List.set_append_left, List.set_append_right, List.getElem?_set_self, List.getElem?_set_ne, l1, l2, y1, y2, w1, w2, c0, c0', c1, c1', c2, c2', c3, c3', c4, c4', c5, c5', c6, c6', c7, c7', c8, c8', c9, c9', c10, c10', c11, c11', c12, c12', c13, c13', s1.1, s1.2.1, s1.2.2, s2.1, s2.2.1, s2.2.2]
  have c13' : (l.node == 0) = true := by simpa using c13
  by_cases c14 : l.errno = 0
  rotate_left
  · have c14' : (l.errno == 0) = false := by simpa using c14
    simp [sf41, evB, recheck, wantsOp, AV.same, sames, eqCells, eqLeaf, toL_some, asc, fzero, fnone, List.map_cons, List.map_nil, resVals, resVal, resOf, partV, fillA, putCells, fillEls, strBin, minV, optNat, appendEls, elsOf, sliceSlV, sliceStrV, List.replicate, List.getElem?_append_left, List.getElem?_append_right, List.set_append_left, List.set_append_right, List.getElem?_set_self, List.getElem?_set_ne, l1, l2, y1, y2, w1, w2, c0, c0', c1, c1', c2, c2', c3, c3', c4, c4', c5, c5', c6, c6', c7, c7', c8, c8', c9, c9', c10, c10', c11, c11', c12, c12', c13, c13', c14, c14', s1.1, s1.2.1, s1.2.2, s2.1, s2.2.1, s2.2.2]
  have c14' : (l.errno == 0) = true := by simpa using c14
  by_cases c15 : l.tv = []
  rotate_left
  · have c15' : (l.tv == []) = false := by simpa using c15
    simp [sf41, evB, recheck, wantsOp, AV.same, sames, eqCells, eqLeaf, toL_some, asc, fzero, fnone, List.map_cons, List.map_nil, resVals, resVal, resOf, partV, fillA, putCells, fillEls, strBin, minV, optNat, appendEls, elsOf, sliceSlV, sliceStrV, List.replicate, List.getElem?_append_left, List.getElem?_append_right, List.set_append_left, List.set_append_right, List.getElem?_set_self, List.getElem?_set_ne, l1, l2, y1, y2, w1, w2, c0, c0', c1, c1', c2, c2', c3, c3', c4, c4', c5, c5', c6, c6', c7, c7', c8, c8', c9, c9', c10, c10', c11, c11', c12, c12', c13, c13', c14, c14', c15, c15', s1.1, s1.2.1, s1.2.2, s2.1, s2.2.1, s2.2.2]
  have c15' : (l.tv == []) = true := by simpa using c15
  cases c16 : l.more
  rotate_left
  · simp [sf41, evB, recheck, wantsOp, AV.same, sames, eqCells, eqLeaf, toL_some, asc, fzero, fnone, List.map_cons, List.map_nil, resVals, resVal, resOf, partV, fillA, putCells, fillEls, strBin, minV, optNat, appendEls, elsOf, sliceSlV, sliceStrV, List.replicate, List.getElem?_append_left, List.getElem?_append_right, List.set_append_left, List.set_append_right, List.getElem?_set_self, List.getElem?_set_ne, l1, l2, y1, y2, w1, w2, c0, c0', c1, c1', c2, c2', c3, c3', c4, c4', c5, c5', c6, c6', c7, c7', c8, c8', c9, c9', c10, c10', c11, c11', c12, c12', c13, c13', c14, c14', c15, c15', c16, s1.1, s1.2.1, s1.2.2, s2.1, s2.2.1, s2.2.2]
  by_cases c17 : l.next = []
  rotate_left
  · have c17' : (l.next == []) = false := by simpa using c17
    simp [sf41, evB, recheck, wantsOp, AV.same, sames, eqCells, eqLeaf, toL_some, asc, fzero, fnone, List.map_cons, List.map_nil, resVals, resVal, resOf, partV, fillA, putCells, fillEls, strBin, minV, optNat, appendEls, elsOf, sliceSlV, sliceStrV, List.replicate, List.getElem?_append_left, List.getElem?_append_right, List.set_append_left, List.set_append_right, List.getElem?_set_self, List.getElem?_set_ne, l1, l2, y1, y2, w1, w2, c0, c0', c1, c1', c2, c2', c3, c3', c4, c4', c5, c5', c6, c6', c7, c7', c8, c8', c9, c9', c10, c10', c11, c11', c12, c12', c13, c13', c14, c14', c15, c15', c16, c17, c17', s1.1, s1.2.1, s1.2.2, s2.1, s2.2.1, s2.2.2]
  have c17' : (l.next == []) = true := by simpa using c17
  by_cases c18 : l.tnode = 0
  rotate_left
  · have c18' : (l.tnode == 0) = false := by simpa using c18
    simp [sf41, evB, recheck, wantsOp, AV.same, sames, eqCells, eqLeaf, toL_some, asc, fzero, fnone, List.map_cons, List.map_nil, resVals, resVal, resOf, partV, fillA, putCells, fillEls, strBin, minV, optNat, appendEls, elsOf, sliceSlV, sliceStrV, List.replicate, List.getElem?_append_left, List.getElem?_append_right, List.set_append_left, List.set_append_right, List.getElem?_set_self, List.getElem?_set_ne, l1, l2, y1, y2, w1, w2, c0, c0', c1, c1', c2, c2', c3, c3', c4, c4', c5, c5', c6, c6', c7, c7', c8, c8', c9, c9', c10, c10', c11, c11', c12, c12', c13, c13', c14, c14', c15, c15', c16, c17, c17', c18, c18', s1.1, s1.2.1, s1.2.2, s2.1, s2.2.1, s2.2.2]
  have c18' : (l.tnode == 0) = true := by simpa using c18
  simp [sf41, evB, recheck, wantsOp, AV.same, sames, eqCells, eqLeaf, toL_some, asc, fzero, fnone, List.map_cons, List.map_nil, resVals, resVal, resOf, partV, fillA, putCells, fillEls, strBin, minV, optNat, appendEls, elsOf, sliceSlV, sliceStrV, List.replicate, List.getElem?_append_left, List.getElem?_append_right, List.set_append_left, List.set_append_right, List.getElem?_set_self, List.getElem?_set_ne, l1, l2, y1, y2, w1, w2, c0, c0', c1, c1', c2, c2', c3, c3', c4, c4', c5, c5', c6, c6', c7, c7', c8, c8', c9, c9', c10, c10', c11, c11', c12, c12', c13, c13', c14, c14', c15, c15', c16, c17, c17', c18, c18', s1.1, s1.2.1, s1.2.2, s2.1, s2.2.1, s2.2.2]
set_option maxHeartbeats 16000000 in
theorem rZero_call {k : H} {c : List AV} {l : Ltr} (hc : IsL k c l) : ∃ z, call fsB exB 45 [.agg c] k = some (.bool (zeroL l), k ++ z) := by
  obtain ⟨v1, v2, rfl, h1, h2, b1, b2⟩ := hc
  have s1 := h1.cells
  have s2 := h2.cells
  have l1 := h1.len
  have l2 := h2.len
  rw [List.length_map] at l1 l2
  rw [call_eq fsB exB (f := 45) (sf := sf45) rfl]
  unfold zeroL
  unfold ltc at *
  have x1 : (¬ l.it.length = 0 ∧ ¬ (l.it.length : Int) = 0 ∧ ((l.it.length : Int) == 0) = false ∧ ¬ l.it = []) ∨ l.it.length = 0 := by
    by_cases h : l.it.length = 0
    · exact .inr h
    · exact .inl ⟨h, by omega, beq_false (by omega), fun e => h (by rw [e]; rfl)⟩
  have x2 : (¬ l.ti.length = 0 ∧ ¬ (l.ti.length : Int) = 0 ∧ ((l.ti.length : Int) == 0) = false ∧ ¬ l.ti = []) ∨ l.ti.length = 0 := by
    by_cases h : l.ti.length = 0
    · exact .inr h
    · exact .inl ⟨h, by omega, beq_false (by omega), fun e => h (by rw [e]; rfl)⟩
  by_cases c0 : l.kind = 0
  rotate_left
  · have c0' : (l.kind == 0) = false := by simpa using c0
    simp [sf45, evB, recheck, wantsOp, AV.same, sames, eqCells, eqLeaf, toL_some, asc, fzero, fnone, List.map_cons, List.map_nil, resVals, resVal, resOf, partV, fillA, putCells, fillEls, strBin, minV, optNat, appendEls, elsOf, sliceSlV, sliceStrV, List.replicate, List.getElem?_append_left, List.getElem?_append_right, List.set_append_left, List.set_append_right, List.getElem?_set_self, List.getElem?_set_ne, l1, l2, c0, c0', s1.1, s1.2.1, s1.2.2, s2.1, s2.2.1, s2.2.2]
  have c0' : (l.kind == 0) = true := by simpa using c0
  by_cases c1 : l.frm = 0
  rotate_left
  · have c1' : (l.frm == 0) = false := by simpa using c1
    simp [sf45, evB, recheck, wantsOp, AV.same, sames, eqCells, eqLeaf, toL_some, asc, fzero, fnone, List.map_cons, List.map_nil, resVals, resVal, resOf, partV, fillA, putCells, fillEls, strBin, minV, optNat, appendEls, elsOf, sliceSlV, sliceStrV, List.replicate, List.getElem?_append_left, List.getElem?_append_right, List.set_append_left, List.set_append_right, List.getElem?_set_self, List.getElem?_set_ne, l1, l2, c0, c0', c1, c1', s1.1, s1.2.1, s1.2.2, s2.1, s2.2.1, s2.2.2]
  have c1' : (l.frm == 0) = true := by simpa using c1
  by_cases c2 : l.dst = 0
  rotate_left
  · have c2' : (l.dst == 0) = false := by simpa using c2
    simp [sf45, evB, recheck, wantsOp, AV.same, sames, eqCells, eqLeaf, toL_some, asc, fzero, fnone, List.map_cons, List.map_nil, resVals, resVal, resOf, partV, fillA, putCells, fillEls, strBin, minV, optNat, appendEls, elsOf, sliceSlV, sliceStrV, List.replicate, List.getElem?_append_left, List.getElem?_append_right, List.set_append_left, List.set_append_right, List.getElem?_set_self, List.getElem?_set_ne, l1, l2, c0, c0', c1, c1', c2, c2', s1.1, s1.2.1, s1.2.2, s2.1, s2.2.1, s2.2.2]
  have c2' : (l.dst == 0) = true := by simpa using c2
  by_cases c3 : l.id = 0
  rotate_left
  · have c3' : (l.id == 0) = false := by simpa using c3
    simp [sf45, evB, recheck, wantsOp, AV.same, sames, eqCells, eqLeaf, toL_some, asc, fzero, fnone, List.map_cons, List.map_nil, resVals, resVal, resOf, partV, fillA, putCells, fillEls, strBin, minV, optNat, appendEls, elsOf, sliceSlV, sliceStrV, List.replicate, List.getElem?_append_left, List.getElem?_append_right, List.set_append_left, List.set_append_right, List.getElem?_set_self, List.getElem?_set_ne, l1, l2, c0, c0', c1, c1', c2, c2', c3, c3', s1.1, s1.2.1, s1.2.2, s2.1, s2.2.1, s2.2.2]
  have c3' : (l.id == 0) = true := by simpa using c3
  by_cases c4 : l.op = 0
  rotate_left
  · have c4' : (l.op == 0) = false := by simpa using c4
    simp [sf45, evB, recheck, wantsOp, AV.same, sames, eqCells, eqLeaf, toL_some, asc, fzero, fnone, List.map_cons, List.map_nil, resVals, resVal, resOf, partV, fillA, putCells, fillEls, strBin, minV, optNat, appendEls, elsOf, sliceSlV, sliceStrV, List.replicate, List.getElem?_append_left, List.getElem?_append_right, List.set_append_left, List.set_append_right, List.getElem?_set_self, List.getElem?_set_ne, l1, l2, c0, c0', c1, c1', c2, c2', c3, c3', c4, c4', s1.1, s1.2.1, s1.2.2, s2.1, s2.2.1, s2.2.2]
  have c4' : (l.op == 0) = true := by simpa using c4
  by_cases c5 : l.key = []
  rotate_left
  · have c5' : (l.key == []) = false := by simpa using c5
    simp [sf45, evB, recheck, wantsOp, AV.same, sames, eqCells, eqLeaf, toL_some, asc, fzero, fnone, List.map_cons, List.map_nil, resVals, resVal, resOf, partV, fillA, putCells, fillEls, strBin, minV, optNat, appendEls, elsOf, sliceSlV, sliceStrV, List.replicate, List.getElem?_append_left, List.getElem?_append_right, List.set_append_left, List.set_append_right, List.getElem?_set_self, List.getElem?_set_ne, l1, l2, c0, c0', c1, c1', c2, c2', c3, c3', c4, c4', c5, c5', s1.1, s1.2.1, s1.2.2, s2.1, s2.2.1, s2.2.2]
  have c5' : (l.key == []) = true := by simpa using c5
  by_cases c6 : l.value = []
  rotate_left
  · have c6' : (l.value == []) = false := by simpa using c6
    simp [sf45, evB, recheck, wantsOp, AV.same, sames, eqCells, eqLeaf, toL_some, asc, fzero, fnone, List.map_cons, List.map_nil, resVals, resVal, resOf, partV, fillA, putCells, fillEls, strBin, minV, optNat, appendEls, elsOf, sliceSlV, sliceStrV, List.replicate, List.getElem?_append_left, List.getElem?_append_right, List.set_append_left, List.set_append_right, List.getElem?_set_self, List.getElem?_set_ne, l1, l2, c0, c0', c1, c1', c2, c2', c3, c3', c4, c4', c5, c5', c6, c6', s1.1, s1.2.1, s1.2.2, s2.1, s2.2.1, s2.2.2]
  have c6' : (l.value == []) = true := by simpa using c6
  by_cases c7 : l.to2 = []
  rotate_left
  · have c7' : (l.to2 == []) = false := by simpa using c7
    simp [sf45, evB, recheck, wantsOp, AV.same, sames, eqCells, eqLeaf, toL_some, asc, fzero, fnone, List.map_cons, List.map_nil, resVals, resVal, resOf, partV, fillA, putCells, fillEls, strBin, minV, optNat, appendEls, elsOf, sliceSlV, sliceStrV, List.replicate, List.getElem?_append_left, List.getElem?_append_right, List.set_append_left, List.set_append_right, List.getElem?_set_self, List.getElem?_set_ne, l1, l2, c0, c0', c1, c1', c2, c2', c3, c3', c4, c4', c5, c5', c6, c6', c7, c7', s1.1, s1.2.1, s1.2.2, s2.1, s2.2.1, s2.2.2]
  have c7' : (l.to2 == []) = true := by simpa using c7
  by_cases c8 : l.most = 0
  rotate_left
  · have c8' : (l.most == 0) = false := by simpa using c8
    simp [sf45, evB, recheck, wantsOp, AV.same, sames, eqCells, eqLeaf, toL_some, asc, fzero, fnone, List.map_cons, List.map_nil, resVals, resVal, resOf, partV, fillA, putCells, fillEls, strBin, minV, optNat, appendEls, elsOf, sliceSlV, sliceStrV, List.replicate, List.getElem?_append_left, List.getElem?_append_right, List.set_append_left, List.set_append_right, List.getElem?_set_self, List.getElem?_set_ne, l1, l2, c0, c0', c1, c1', c2, c2', c3, c3', c4, c4', c5, c5', c6, c6', c7, c7', c8, c8', s1.1, s1.2.1, s1.2.2, s2.1, s2.2.1, s2.2.2]
  have c8' : (l.most == 0) = true := by simpa using c8
  by_cases c9 : l.af = 0
  rotate_left
  · have c9' : (l.af == 0) = false := by simpa using c9
    simp [sf45, evB, recheck, wantsOp, AV.same, sames, eqCells, eqLeaf, toL_some, asc, fzero, fnone, List.map_cons, List.map_nil, resVals, resVal, resOf, partV, fillA, putCells, fillEls, strBin, minV, optNat, appendEls, elsOf, sliceSlV, sliceStrV, List.replicate, List.getElem?_append_left, List.getElem?_append_right, List.set_append_left, List.set_append_right, List.getElem?_set_self, List.getElem?_set_ne, l1, l2, c0, c0', c1, c1', c2, c2', c3, c3', c4, c4', c5, c5', c6, c6', c7, c7', c8, c8', c9, c9', s1.1, s1.2.1, s1.2.2, s2.1, s2.2.1, s2.2.2]
  have c9' : (l.af == 0) = true := by simpa using c9
  by_cases c10 : l.at_ = 0
  rotate_left
  · have c10' : (l.at_ == 0) = false := by simpa using c10
    simp [sf45, evB, recheck, wantsOp, AV.same, sames, eqCells, eqLeaf, toL_some, asc, fzero, fnone, List.map_cons, List.map_nil, resVals, resVal, resOf, partV, fillA, putCells, fillEls, strBin, minV, optNat, appendEls, elsOf, sliceSlV, sliceStrV, List.replicate, List.getElem?_append_left, List.getElem?_append_right, List.set_append_left, List.set_append_right, List.getElem?_set_self, List.getElem?_set_ne, l1, l2, c0, c0', c1, c1', c2, c2', c3, c3', c4, c4', c5, c5', c6, c6', c7, c7', c8, c8', c9, c9', c10, c10', s1.1, s1.2.1, s1.2.2, s2.1, s2.2.1, s2.2.2]
  have c10' : (l.at_ == 0) = true := by simpa using c10
  by_cases c11 : l.ep = 0
  rotate_left
  · have c11' : (l.ep == 0) = false := by simpa using c11
    simp [sf45, evB, recheck, wantsOp, AV.same, sames, eqCells, eqLeaf, toL_some, asc, fzero, fnone, List.map_cons, List.map_nil, resVals, resVal, resOf, partV, fillA, putCells, fillEls, strBin, minV, optNat, appendEls, elsOf, sliceSlV, sliceStrV, List.replicate, List.getElem?_append_left, List.getElem?_append_right, List.set_append_left, List.set_append_right, List.getElem?_set_self, List.getElem?_set_ne, l1, l2, c0, c0', c1, c1', c2, c2', c3, c3', c4, c4', c5, c5', c6, c6', c7, c7', c8, c8', c9, c9', c10, c10', c11, c11', s1.1, s1.2.1, s1.2.2, s2.1, s2.2.1, s2.2.2]
  have c11' : (l.ep == 0) = true := by simpa using c11
  rcases x1 with ⟨y1, y2, y3, y4⟩ | y1
  · simp [sf45, evB, recheck, wantsOp, AV.same, sames, eqCells, eqLeaf, toL_some, asc, fzero, fnone, List.map_cons, List.map_nil, resVals, resVal, resOf, partV, fillA, putCells, fillEls, strBin, minV, optNat, appendEls, elsOf, sliceSlV, sliceStrV, List.replicate, List.getElem?_append_left, List.getElem?_append_right, List.set_append_left, List.set_append_right, List.getElem?_set_self, List.getElem?_set_ne, l1, l2, c0, c0', c1, c1', c2, c2', c3, c3', c4, c4', c5, c5', c6, c6', c7, c7', c8, c8', c9, c9', c10, c10', c11, c11', y1, y2, y3, y4, s1.1, s1.2.1, s1.2.2, s2.1, s2.2.1, s2.2.2]
  by_cases d0 : l.n = 0
  rotate_left
  · have d0' : (l.n == 0) = false := by simpa using d0
    simp [sf45, evB, recheck, wantsOp, AV.same, sames, eqCells, eqLeaf, toL_some, asc, fzero, fnone, List.map_cons, List.map_nil, resVals, resVal, resOf, partV, fillA, putCells, fillEls, strBin, minV, optNat, appendEls, elsOf, sliceSlV, sliceStrV, List.replicate, List.getElem?_append_left, List.getElem?_append_right, List.set_append_left, List.set_append_right, List.getElem?_set_self, List.getElem?_set_ne, l1, l2, c0, c0', c1, c1', c2, c2', c3, c3', c4, c4', c5, c5', c6, c6', c7, c7', c8, c8', c9, c9', c10, c10', c11, c11', y1, d0, d0', s1.1, s1.2.1, s1.2.2, s2.1, s2.2.1, s2.2.2]
  have d0' : (l.n == 0) = true := by simpa using d0
  by_cases d1 : l.node = 0
  rotate_left
  · have d1' : (l.node == 0) = false := by simpa using d1
    simp [sf45, evB, recheck, wantsOp, AV.same, sames, eqCells, eqLeaf, toL_some, asc, fzero, fnone, List.map_cons, List.map_nil, resVals, resVal, resOf, partV, fillA, putCells, fillEls, strBin, minV, optNat, appendEls, elsOf, sliceSlV, sliceStrV, List.replicate, List.getElem?_append_left, List.getElem?_append_right, List.set_append_left, List.set_append_right, List.getElem?_set_self, List.getElem?_set_ne, l1, l2, c0, c0', c1, c1', c2, c2', c3, c3', c4, c4', c5, c5', c6, c6', c7, c7', c8, c8', c9, c9', c10, c10', c11, c11', y1, d0, d0', d1, d1', s1.1, s1.2.1, s1.2.2, s2.1, s2.2.1, s2.2.2]
  have d1' : (l.node == 0) = true := by simpa using d1
  by_cases e0 : l.errno = 0
  rotate_left
  · have e0' : (l.errno == 0) = false := by simpa using e0
    simp [sf45, evB, recheck, wantsOp, AV.same, sames, eqCells, eqLeaf, toL_some, asc, fzero, fnone, List.map_cons, List.map_nil, resVals, resVal, resOf, partV, fillA, putCells, fillEls, strBin, minV, optNat, appendEls, elsOf, sliceSlV, sliceStrV, List.replicate, List.getElem?_append_left, List.getElem?_append_right, List.set_append_left, List.set_append_right, List.getElem?_set_self, List.getElem?_set_ne, l1, l2, c0, c0', c1, c1', c2, c2', c3, c3', c4, c4', c5, c5', c6, c6', c7, c7', c8, c8', c9, c9', c10, c10', c11, c11', y1, d0, d0', d1, d1', e0, e0', s1.1, s1.2.1, s1.2.2, s2.1, s2.2.1, s2.2.2]
  have e0' : (l.errno == 0) = true := by simpa using e0
  by_cases e1 : l.tv = []
  rotate_left
  · have e1' : (l.tv == []) = false := by simpa using e1
    simp [sf45, evB, recheck, wantsOp, AV.same, sames, eqCells, eqLeaf, toL_some, asc, fzero, fnone, List.map_cons, List.map_nil, resVals, resVal, resOf, partV, fillA, putCells, fillEls, strBin, minV, optNat, appendEls, elsOf, sliceSlV, sliceStrV, List.replicate, List.getElem?_append_left, List.getElem?_append_right, List.set_append_left, List.set_append_right, List.getElem?_set_self, List.getElem?_set_ne, l1, l2, c0, c0', c1, c1', c2, c2', c3, c3', c4, c4', c5, c5', c6, c6', c7, c7', c8, c8', c9, c9', c10, c10', c11, c11', y1, d0, d0', d1, d1', e0, e0', e1, e1', s1.1, s1.2.1, s1.2.2, s2.1, s2.2.1, s2.2.2]
  have e1' : (l.tv == []) = true := by simpa using e1
  rcases x2 with ⟨w1, w2, w3, w4⟩ | w1
  · simp [sf45, evB, recheck, wantsOp, AV.same, sames, eqCells, eqLeaf, toL_some, asc, fzero, fnone, List.map_cons, List.map_nil, resVals, resVal, resOf, partV, fillA, putCells, fillEls, strBin, minV, optNat, appendEls, elsOf, sliceSlV, sliceStrV, List.replicate, List.getElem?_append_left, List.getElem?_append_right, List.set_append_left, List.set_append_right, List.getElem?_set_self, List.getElem?_set_ne, l1, l2, c0, c0', c1, c1', c2, c2', c3, c3', c4, c4', c5, c5', c6, c6', c7, c7', c8, c8', c9, c9', c10, c10', c11, c11', y1, d0, d0', d1, d1', e0, e0', e1, e1', w1, w2, w3, w4, s1.1, s1.2.1, s1.2.2, s2.1, s2.2.1, s2.2.2]
  cases e2 : l.more
  rotate_left
  · simp [sf45, evB, recheck, wantsOp, AV.same, sames, eqCells, eqLeaf, toL_some, asc, fzero, fnone, List.map_cons, List.map_nil, resVals, resVal, resOf, partV, fillA, putCells, fillEls, strBin, minV, optNat, appendEls, elsOf, sliceSlV, sliceStrV, List.replicate, List.getElem?_append_left, List.getElem?_append_right, List.set_append_left, List.set_append_right, List.getElem?_set_self, List.getElem?_set_ne, l1, l2, c0, c0', c1, c1', c2, c2', c3, c3', c4, c4', c5, c5', c6, c6', c7, c7', c8, c8', c9, c9', c10, c10', c11, c11', y1, d0, d0', d1, d1', e0, e0', e1, e1', w1, e2, s1.1, s1.2.1, s1.2.2, s2.1, s2.2.1, s2.2.2]
  by_cases e3 : l.next = []
  rotate_left
  · have e3' : (l.next == []) = false := by simpa using e3
    simp [sf45, evB, recheck, wantsOp, AV.same, sames, eqCells, eqLeaf, toL_some, asc, fzero, fnone, List.map_cons, List.map_nil, resVals, resVal, resOf, partV, fillA, putCells, fillEls, strBin, minV, optNat, appendEls, elsOf, sliceSlV, sliceStrV, List.replicate, List.getElem?_append_left, List.getElem?_append_right, List.set_append_left, List.set_append_right, List.getElem?_set_self, List.getElem?_set_ne, l1, l2, c0, c0', c1, c1', c2, c2', c3, c3', c4, c4', c5, c5', c6, c6', c7, c7', c8, c8', c9, c9', c10, c10', c11, c11', y1, d0, d0', d1, d1', e0, e0', e1, e1', w1, e2, e3, e3', s1.1, s1.2.1, s1.2.2, s2.1, s2.2.1, s2.2.2]
  have e3' : (l.next == []) = true := by simpa using e3
  by_cases e4 : l.tnode = 0
  rotate_left
  · have e4' : (l.tnode == 0) = false := by simpa using e4
    simp [sf45, evB, recheck, wantsOp, AV.same, sames, eqCells, eqLeaf, toL_some, asc, fzero, fnone, List.map_cons, List.map_nil, resVals, resVal, resOf, partV, fillA, putCells, fillEls, strBin, minV, optNat, appendEls, elsOf, sliceSlV, sliceStrV, List.replicate, List.getElem?_append_left, List.getElem?_append_right, List.set_append_left, List.set_append_right, List.getElem?_set_self, List.getElem?_set_ne, l1, l2, c0, c0', c1, c1', c2, c2', c3, c3', c4, c4', c5, c5', c6, c6', c7, c7', c8, c8', c9, c9', c10, c10', c11, c11', y1, d0, d0', d1, d1', e0, e0', e1, e1', w1, e2, e3, e3', e4, e4', s1.1, s1.2.1, s1.2.2, s2.1, s2.2.1, s2.2.2]
  have e4' : (l.tnode == 0) = true := by simpa using e4
  simp [sf45, evB, recheck, wantsOp, AV.same, sames, eqCells, eqLeaf, toL_some, asc, fzero, fnone, List.map_cons, List.map_nil, resVals, resVal, resOf, partV, fillA, putCells, fillEls, strBin, minV, optNat, appendEls, elsOf, sliceSlV, sliceStrV, List.replicate, List.getElem?_append_left, List.getElem?_append_right, List.set_append_left, List.set_append_right, List.getElem?_set_self, List.getElem?_set_ne, l1, l2, c0, c0', c1, c1', c2, c2', c3, c3', c4, c4', c5, c5', c6, c6', c7, c7', c8, c8', c9, c9', c10, c10', c11, c11', y1, d0, d0', d1, d1', e0, e0', e1, e1', w1, e2, e3, e3', e4, e4', s1.1, s1.2.1, s1.2.2, s2.1, s2.2.1, s2.2.2]
/-- Two letters the same: as they are looked at. -/
def sameT (l m : Ltr) : Bool := (l.errno == m.errno) && ((l.tv == m.tv) && (decide (l.ti = m.ti) && ((l.more == m.more) && ((l.next == m.next) && (l.tnode == m.tnode)))))
def same (l m : Ltr) : Bool := (l.kind == m.kind) && ((l.frm == m.frm) && ((l.dst == m.dst) && ((l.id == m.id) && (((l.op == m.op) && ((l.key == m.key) && ((l.value == m.value) && ((l.to2 == m.to2) && (l.most == m.most))))) && (sameT l m && (((l.af == m.af) && (l.at_ == m.at_)) &&
  ((l.ep == m.ep) && (decide (l.it = m.it) && ((l.n == m.n) && (l.node == m.node))))))))))
theorem same_iff {l m : Ltr} : same l m = true ↔ l = m := by
  cases l; cases m
  simp only [same, sameT, Bool.and_eq_true, beq_iff_eq, decide_eq_true_eq, Ltr.mk.injEq]
  constructor
  · rintro ⟨h1, h2, h3, h4, ⟨h5, h6, h7, h8, h9⟩, ⟨h10, h11, h12, h13, h14, h15⟩, ⟨h16, h17⟩, h18, h19, h20, h21⟩
    exact ⟨h1, h2, h3, h4, h5, h6, h7, h8, h9, h10, h11, h12, h13, h14, h15, h16, h17, h18, h19, h20, h21⟩
  · rintro ⟨h1, h2, h3, h4, h5, h6, h7, h8, h9, h10, h11, h12, h13, h14, h15, h16, h17, h18, h19, h20, h21⟩
    exact ⟨h1, h2, h3, h4, ⟨h5, h6, h7, h8, h9⟩, ⟨h10, h11, h12, h13, h14, h15⟩, ⟨h16, h17⟩, h18, h19, h20, h21⟩
set_option maxHeartbeats 16000000 in
theorem told_call {k : H} {v w : AV} {l m : Ltr} (h1 : RdS k 2 v (l.ti.map itc)) (h2 : RdS k 2 w (m.ti.map itc)) (hl : l.ti.length < 4611686018427387904) :
    ∃ z, call fsB exB 34 [.agg [.int .i64 l.errno, .str l.tv, v, .bool l.more, .str l.next, .int .i64 l.tnode], .agg [.int .i64 m.errno, .str m.tv, w, .bool m.more, .str m.next, .int .i64 m.tnode]] k = some (.bool (sameT l m), k ++ z) := by
  have s1 := h1.cells
  have s2 := h2.cells
  have e1 := b_same (rds_app (k := [.row 6 [[.int .i64 l.errno, .str l.tv, v, .bool l.more, .str l.next, .int .i64 l.tnode]] true true, .row 6 [[.int .i64 m.errno, .str m.tv, w, .bool m.more, .str m.next, .int .i64 m.tnode]] true true]) h1) (rds_app h2) hl
  rw [call_eq fsB exB (f := 34) (sf := sf34) rfl]
  unfold sameT
  generalize decide (l.ti = m.ti) = q at *
  by_cases c0 : l.errno = m.errno
  rotate_left
  · have c0' : (l.errno == m.errno) = false := by simpa using c0
    simp [sf34, evB, recheck, wantsOp, AV.same, sames, eqCells, eqLeaf, toL_some, asc, fzero, fnone, List.map_cons, List.map_nil, resVals, resVal, resOf, partV, fillA, putCells, fillEls, strBin, minV, optNat, appendEls, elsOf, sliceSlV, sliceStrV, List.replicate, List.getElem?_append_left, List.getElem?_append_right, List.set_append_left, List.set_append_right, List.getElem?_set_self, List.getElem?_set_ne, c0, c0', s1.1, s1.2.1, s1.2.2, s2.1, s2.2.1, s2.2.2]
  have c0' : (l.errno == m.errno) = true := by simpa using c0
  by_cases c1 : l.tv = m.tv
  rotate_left
  · have c1' : (l.tv == m.tv) = false := by simpa using c1
    simp [sf34, evB, recheck, wantsOp, AV.same, sames, eqCells, eqLeaf, toL_some, asc, fzero, fnone, List.map_cons, List.map_nil, resVals, resVal, resOf, partV, fillA, putCells, fillEls, strBin, minV, optNat, appendEls, elsOf, sliceSlV, sliceStrV, List.replicate, List.getElem?_append_left, List.getElem?_append_right, List.set_append_left, List.set_append_right, List.getElem?_set_self, List.getElem?_set_ne, c0', c1, c1', s1.1, s1.2.1, s1.2.2, s2.1, s2.2.1, s2.2.2]
  have c1' : (l.tv == m.tv) = true := by simpa using c1
  cases q
  · simp [sf34, evB, recheck, wantsOp, AV.same, sames, eqCells, eqLeaf, toL_some, asc, fzero, fnone, List.map_cons, List.map_nil, resVals, resVal, resOf, partV, fillA, putCells, fillEls, strBin, minV, optNat, appendEls, elsOf, sliceSlV, sliceStrV, List.replicate, List.getElem?_append_left, List.getElem?_append_right, List.set_append_left, List.set_append_right, List.getElem?_set_self, List.getElem?_set_ne, c0', c1', e1, s1.1, s1.2.1, s1.2.2, s2.1, s2.2.1, s2.2.2]
  have c3 : (l.more == m.more) = true ∨ (l.more == m.more) = false := by cases h : (l.more == m.more) <;> simp
  rcases c3 with c3 | c3
  rotate_left
  · simp [sf34, evB, recheck, wantsOp, AV.same, sames, eqCells, eqLeaf, toL_some, asc, fzero, fnone, List.map_cons, List.map_nil, resVals, resVal, resOf, partV, fillA, putCells, fillEls, strBin, minV, optNat, appendEls, elsOf, sliceSlV, sliceStrV, List.replicate, List.getElem?_append_left, List.getElem?_append_right, List.set_append_left, List.set_append_right, List.getElem?_set_self, List.getElem?_set_ne, c0', c1', e1, c3, s1.1, s1.2.1, s1.2.2, s2.1, s2.2.1, s2.2.2]
  by_cases c4 : l.next = m.next
  rotate_left
  · have c4' : (l.next == m.next) = false := by simpa using c4
    simp [sf34, evB, recheck, wantsOp, AV.same, sames, eqCells, eqLeaf, toL_some, asc, fzero, fnone, List.map_cons, List.map_nil, resVals, resVal, resOf, partV, fillA, putCells, fillEls, strBin, minV, optNat, appendEls, elsOf, sliceSlV, sliceStrV, List.replicate, List.getElem?_append_left, List.getElem?_append_right, List.set_append_left, List.set_append_right, List.getElem?_set_self, List.getElem?_set_ne, c0', c1', e1, c3, c4, c4', s1.1, s1.2.1, s1.2.2, s2.1, s2.2.1, s2.2.2]
  have c4' : (l.next == m.next) = true := by simpa using c4
  by_cases c5 : l.tnode = m.tnode
  rotate_left
  · have c5' : (l.tnode == m.tnode) = false := by simpa using c5
    simp [sf34, evB, recheck, wantsOp, AV.same, sames, eqCells, eqLeaf, toL_some, asc, fzero, fnone, List.map_cons, List.map_nil, resVals, resVal, resOf, partV, fillA, putCells, fillEls, strBin, minV, optNat, appendEls, elsOf, sliceSlV, sliceStrV, List.replicate, List.getElem?_append_left, List.getElem?_append_right, List.set_append_left, List.set_append_right, List.getElem?_set_self, List.getElem?_set_ne, c0', c1', e1, c3, c4', c5, c5', s1.1, s1.2.1, s1.2.2, s2.1, s2.2.1, s2.2.2]
  have c5' : (l.tnode == m.tnode) = true := by simpa using c5
  simp [sf34, evB, recheck, wantsOp, AV.same, sames, eqCells, eqLeaf, toL_some, asc, fzero, fnone, List.map_cons, List.map_nil, resVals, resVal, resOf, partV, fillA, putCells, fillEls, strBin, minV, optNat, appendEls, elsOf, sliceSlV, sliceStrV, List.replicate, List.getElem?_append_left, List.getElem?_append_right, List.set_append_left, List.set_append_right, List.getElem?_set_self, List.getElem?_set_ne, c0', c1', e1, c3, c4', c5', s1.1, s1.2.1, s1.2.2, s2.1, s2.2.1, s2.2.2]
end Go.Proofs.YtgnenipkebelfaaDoor.Lt
