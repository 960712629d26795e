/- Letters: the letter of nothing; what is told (written by genlt2.py) -/
import Derived.Test.YtgnenipkebelfaaGreatDoorLtD
set_option maxRecDepth 100000
set_option linter.unusedVariables false
set_option linter.unusedSimpArgs false
namespace Go.Proofs.YtgnenipkebelfaaGreatDoor.Lt
open Go Go.Eng F Pk Bk


/-- Two letters the same: as they are looked at. -/
def sameT (l m : Ltr) : Bool := (l.errno == m.errno) && ((l.tv == m.tv) && (decide (l.ti = m.ti) && ((l.more == m.more) && ((l.next == m.next) && (l.tnode == m.tnode)))))
def same (l m : Ltr) : Bool := (l.kind == m.kind) && ((l.frm == m.frm) && ((l.dst == m.dst) && ((l.id == m.id) && (((l.op == m.op) && ((l.key == m.key) && ((l.value == m.value) && ((l.to2 == m.to2) && (l.most == m.most))))) && (sameT l m && (((l.af == m.af) && (l.at_ == m.at_)) &&
  ((l.ep == m.ep) && (decide (l.it = m.it) && ((l.n == m.n) && (l.node == m.node))))))))))
theorem same_iff {l m : Ltr} : same l m = true ↔ l = m := by
  cases l; cases m
  simp only [same, sameT, Bool.and_eq_true, beq_iff_eq, decide_eq_true_eq, Ltr.mk.injEq]
  constructor
  · rintro ⟨h1, h2, h3, h4, ⟨h5, h6, h7, h8, h9⟩, ⟨h10, h11, h12, h13, h14, h15⟩, ⟨h16, h17⟩, h18, h19, h20, h21⟩
    exact ⟨h1, h2, h3, h4, h5, h6, h7, h8, h9, h10, h11, h12, h13, h14, h15, h16, h17, h18, h19, h20, h21⟩
  · rintro ⟨h1, h2, h3, h4, h5, h6, h7, h8, h9, h10, h11, h12, h13, h14, h15, h16, h17, h18, h19, h20, h21⟩
    exact ⟨h1, h2, h3, h4, ⟨h5, h6, h7, h8, h9⟩, ⟨h10, h11, h12, h13, h14, h15⟩, ⟨h16, h17⟩, h18, h19, h20, h21⟩
set_option maxHeartbeats 16000000 in
theorem told_call {k : H} {v w : AV} {l m : Ltr} (h1 : RdS k 2 v (l.ti.map itc)) (h2 : RdS k 2 w (m.ti.map itc)) (hl : l.ti.length < 4611686018427387904) :
    ∃ z, call fsB exB 42 [.agg [.int .i64 l.errno, .str l.tv, v, .bool l.more, .str l.next, .int .i64 l.tnode], .agg [.int .i64 m.errno, .str m.tv, w, .bool m.more, .str m.next, .int .i64 m.tnode]] k = some (.bool (sameT l m), k ++ z) := by
  have s1 := h1.cells
  have s2 := h2.cells
  have e1 := b_same (rds_app (k := [.row 6 [[.int .i64 l.errno, .str l.tv, v, .bool l.more, .str l.next, .int .i64 l.tnode]] true true, .row 6 [[.int .i64 m.errno, .str m.tv, w, .bool m.more, .str m.next, .int .i64 m.tnode]] true true]) h1) (rds_app h2) hl
  rw [call_eq fsB exB (f := 42) (sf := sf42) rfl]
  unfold sameT
  generalize decide (l.ti = m.ti) = q at *
  by_cases c0 : l.errno = m.errno
  rotate_left
  · have c0' : (l.errno == m.errno) = false := by simpa using c0
    simp [sf42, evB, recheck, wantsOp, AV.same, sames, eqCells, eqLeaf, toL_some, asc, fzero, fnone, List.map_cons, List.map_nil, resVals, resVal, resOf, partV, fillA, putCells, fillEls, strBin, minV, optNat, appendEls, elsOf, sliceSlV, sliceStrV, List.replicate, List.getElem?_append_left, List.getElem?_append_right, List.set_append_left, List.set_append_right, List.getElem?_set_self, List.getElem?_set_ne, c0, c0', s1.1, s1.2.1, s1.2.2, s2.1, s2.2.1, s2.2.2]
  have c0' : (l.errno == m.errno) = true := by simpa using c0
  by_cases c1 : l.tv = m.tv
  rotate_left
  · have c1' : (l.tv == m.tv) = false := by simpa using c1
    simp [sf42, evB, recheck, wantsOp, AV.same, sames, eqCells, eqLeaf, toL_some, asc, fzero, fnone, List.map_cons, List.map_nil, resVals, resVal, resOf, partV, fillA, putCells, fillEls, strBin, minV, optNat, appendEls, elsOf, sliceSlV, sliceStrV, List.replicate, List.getElem?_append_left, List.getElem?_append_right, List.set_append_left, List.set_append_right, List.getElem?_set_self, List.getElem?_set_ne, c0', c1, c1', s1.1, s1.2.1, s1.2.2, s2.1, s2.2.1, s2.2.2]
  have c1' : (l.tv == m.tv) = true := by simpa using c1
  cases q
  · simp [sf42, evB, recheck, wantsOp, AV.same, sames, eqCells, eqLeaf, toL_some, asc, fzero, fnone, List.map_cons, List.map_nil, resVals, resVal, resOf, partV, fillA, putCells, fillEls, strBin, minV, optNat, appendEls, elsOf, sliceSlV, sliceStrV, List.replicate, List.getElem?_append_left, List.getElem?_append_right, List.set_append_left, List.set_append_right, List.getElem?_set_self, List.getElem?_set_ne, c0', c1', e1, s1.1, s1.2.1, s1.2.2, s2.1, s2.2.1, s2.2.2]
  have c3 : (l.more == m.more) = true ∨ (l.more == m.more) = false := by cases h : (l.more == m.more) <;> simp
  rcases c3 with c3 | c3
  rotate_left
  · simp [sf42, evB, recheck, wantsOp, AV.same, sames, eqCells, eqLeaf, toL_some, asc, fzero, fnone, List.map_cons, List.map_nil, resVals, resVal, resOf, partV, fillA, putCells, fillEls, strBin, minV, optNat, appendEls, elsOf, sliceSlV, sliceStrV, List.replicate, List.getElem?_append_left, List.getElem?_append_right, List.set_append_left, List.set_append_right, List.getElem?_set_self, List.getElem?_set_ne, c0', c1', e1, c3, s1.1, s1.2.1, s1.2.2, s2.1, s2.2.1, s2.2.2]
  by_cases c4 : l.next = m.next
  rotate_left
  · have c4' : (l.next == m.next) = false := by simpa using c4
    simp [sf42, evB, recheck, wantsOp, AV.same, sames, eqCells, eqLeaf, toL_some, asc, fzero, fnone, List.map_cons, List.map_nil, resVals, resVal, resOf, partV, fillA, putCells, fillEls, strBin, minV, optNat, appendEls, elsOf, sliceSlV, sliceStrV, List.replicate, List.getElem?_append_left, List.getElem?_append_right, List.set_append_left, List.set_append_right, List.getElem?_set_self, List.getElem?_set_ne, c0', c1', e1, c3, c4, c4', s1.1, s1.2.1, s1.2.2, s2.1, s2.2.1, s2.2.2]
  have c4' : (l.next == m.next) = true := by simpa using c4
  by_cases c5 : l.tnode = m.tnode
  rotate_left
  · have c5' : (l.tnode == m.tnode) = false := by simpa using c5
    simp [sf42, evB, recheck, wantsOp, AV.same, sames, eqCells, eqLeaf, toL_some, asc, fzero, fnone, List.map_cons, List.map_nil, resVals, resVal, resOf, partV, fillA, putCells, fillEls, strBin, minV, optNat, appendEls, elsOf, sliceSlV, sliceStrV, List.replicate, List.getElem?_append_left, List.getElem?_append_right, List.set_append_left, List.set_append_right, List.getElem?_set_self, List.getElem?_set_ne, c0', c1', e1, c3, c4', c5, c5', s1.1, s1.2.1, s1.2.2, s2.1, s2.2.1, s2.2.2]
  have c5' : (l.tnode == m.tnode) = true := by simpa using c5
  simp [sf42, evB, recheck, wantsOp, AV.same, sames, eqCells, eqLeaf, toL_some, asc, fzero, fnone, List.map_cons, List.map_nil, resVals, resVal, resOf, partV, fillA, putCells, fillEls, strBin, minV, optNat, appendEls, elsOf, sliceSlV, sliceStrV, List.replicate, List.getElem?_append_left, List.getElem?_append_right, List.set_append_left, List.set_append_right, List.getElem?_set_self, List.getElem?_set_ne, c0', c1', e1, c3, c4', c5', s1.1, s1.2.1, s1.2.2, s2.1, s2.2.1, s2.2.2]
end Go.Proofs.YtgnenipkebelfaaGreatDoor.Lt
