/- Letters: two letters, two packets (written by genlt2.py) -/
import Derived.Test.YtgnenipkebelfaaGreatDoorLtE
set_option maxRecDepth 100000
set_option linter.unusedVariables false
set_option linter.unusedSimpArgs false
namespace Go.Proofs.YtgnenipkebelfaaGreatDoor.Lt
open Go Go.Eng F Pk Bk

def lC : List Nat := [9, 8, 42]
def fsC := fsBut fsB lC
theorem fsC_ok : FsOk Tryz.prog fsC := fsBut_ok fsB_ok _
noncomputable def exC : FuncId → List AV → M AV := exDrop lC (call fsB exB) exB
theorem exC_ok : CfSound Tryz.prog exC := exDrop_ok _ (call_sound fsB exB fsB_ok exB_ok) exB_ok
theorem eC {f : FuncId} (hf : fsC f = none) (vs : List AV) (h : H) : call fsC exC f vs h = exC f vs h := call_ex fsC exC hf _ _
theorem dC {f : FuncId} {vs : List AV} {h z : H} {v : AV} (hf : lC.contains f = true) (hn : fsC f = none) (hc : call fsB exB f vs h = some (v, h ++ z)) (hv : flatA v = true) : call fsC exC f vs h = some (v, h) := (eC hn _ _).trans (drop_eq hf hc hv)
theorem oC {f : FuncId} (hX : fsC f = none) (hl : lC.contains f = false) (hP : fsB f = none) (vs : List AV) (h : H) : call fsC exC f vs h = call fsB exB f vs h := by
  rw [call_ex fsC exC hX, call_ex fsB exB hP]
  unfold exC exDrop
  rw [if_neg (by rw [hl]; decide)]
theorem eC_WriteString (vs : List AV) (h : H) : call fsC exC 20 vs h = call fsB exB 20 vs h := oC rfl rfl rfl _ _
theorem eC_String (vs : List AV) (h : H) : call fsC exC 24 vs h = call fsB exB 24 vs h := oC rfl rfl rfl _ _
theorem eC_Fields (vs : List AV) (h : H) : call fsC exC 43 vs h = call fsB exB 43 vs h := oC rfl rfl rfl _ _
theorem eC_Num (vs : List AV) (h : H) : call fsC exC 72 vs h = call fsB exB 72 vs h := oC rfl rfl rfl _ _
theorem eC_Text (vs : List AV) (h : H) : call fsC exC 75 vs h = call fsB exB 75 vs h := oC rfl rfl rfl _ _
theorem eC_rNum (vs : List AV) (h : H) : call fsC exC 32 vs h = call fsB exB 32 vs h := oC rfl rfl rfl _ _
theorem eC_rText (vs : List AV) (h : H) : call fsC exC 35 vs h = call fsB exB 35 vs h := oC rfl rfl rfl _ _
theorem eC_Wide (vs : List AV) (h : H) : call fsC exC 21 vs h = call fsB exB 21 vs h := oC rfl rfl rfl _ _
theorem eC_rWide (vs : List AV) (h : H) : call fsC exC 33 vs h = call fsB exB 33 vs h := oC rfl rfl rfl _ _
theorem eC_From (vs : List AV) (h : H) : call fsC exC 38 vs h = call fsB exB 38 vs h := oC rfl rfl rfl _ _
theorem eC_pNum (vs : List AV) (h : H) : call fsC exC 87 vs h = call fsB exB 87 vs h := oC rfl rfl rfl _ _
theorem eC_rrNum (vs : List AV) (h : H) : call fsC exC 89 vs h = call fsB exB 89 vs h := oC rfl rfl rfl _ _
theorem eC_pText (vs : List AV) (h : H) : call fsC exC 86 vs h = call fsB exB 86 vs h := oC rfl rfl rfl _ _
theorem eC_rrText (vs : List AV) (h : H) : call fsC exC 92 vs h = call fsB exB 92 vs h := oC rfl rfl rfl _ _
theorem eC_pWide (vs : List AV) (h : H) : call fsC exC 84 vs h = call fsB exB 84 vs h := oC rfl rfl rfl _ _
theorem eC_rrWide (vs : List AV) (h : H) : call fsC exC 90 vs h = call fsB exB 90 vs h := oC rfl rfl rfl _ _
theorem eC_Bad (vs : List AV) (h : H) : call fsC exC 88 vs h = call fsB exB 88 vs h := oC rfl rfl rfl _ _
theorem eC_End (vs : List AV) (h : H) : call fsC exC 40 vs h = call fsB exB 40 vs h := oC rfl rfl rfl _ _
theorem eC_small (vs : List AV) (h : H) : call fsC exC 28 vs h = call fsB exB 28 vs h := oC rfl rfl rfl _ _
theorem eC_wide (vs : List AV) (h : H) : call fsC exC 29 vs h = call fsB exB 29 vs h := oC rfl rfl rfl _ _
theorem eC_texts (vs : List AV) (h : H) : call fsC exC 30 vs h = call fsB exB 30 vs h := oC rfl rfl rfl _ _
theorem eC_items (vs : List AV) (h : H) : call fsC exC 31 vs h = call fsB exB 31 vs h := oC rfl rfl rfl _ _
theorem eC_rlines (vs : List AV) (h : H) : call fsC exC 27 vs h = call fsB exB 27 vs h := oC rfl rfl rfl _ _
theorem eC_SameItems (vs : List AV) (h : H) : call fsC exC 37 vs h = call fsB exB 37 vs h := oC rfl rfl rfl _ _
theorem eC_byteful (vs : List AV) (h : H) : call fsC exC 25 vs h = call fsB exB 25 vs h := oC rfl rfl rfl _ _
theorem eC_numeral (vs : List AV) (h : H) : call fsC exC 26 vs h = call fsB exB 26 vs h := oC rfl rfl rfl _ _
theorem eC_rflag (vs : List AV) (h : H) : call fsC exC 36 vs h = call fsB exB 36 vs h := oC rfl rfl rfl _ _

section
variable {k : H} {c : List AV} {l : Ltr}
theorem c_Right (hc : IsL k c l) : call fsC exC 9 [.agg c] k = some (.bool (right l), k) := by
  obtain ⟨z, e⟩ := Right_call hc
  exact dC rfl rfl e rfl
theorem c_Letter (hc : IsL k c l) : call fsC exC 8 [.agg c] k = some (.bool (right l), k) := by
  obtain ⟨z, e⟩ := rLetter_call hc
  exact dC rfl rfl e rfl
theorem c_told {v w : AV} {m : Ltr} (h1 : RdS k 2 v (l.ti.map itc)) (h2 : RdS k 2 w (m.ti.map itc)) (hl : l.ti.length < 4611686018427387904) :
    call fsC exC 42 [.agg [.int .i64 l.errno, .str l.tv, v, .bool l.more, .str l.next, .int .i64 l.tnode], .agg [.int .i64 m.errno, .str m.tv, w, .bool m.more, .str m.next, .int .i64 m.tnode]] k = some (.bool (sameT l m), k) := by
  obtain ⟨z, e⟩ := told_call h1 h2 hl
  exact dC rfl rfl e rfl
theorem c_same {v w : AV} {X Y : List It} (hv : RdS k 2 v (X.map itc)) (hw : RdS k 2 w (Y.map itc)) (hl : X.length < 4611686018427387904) : call fsC exC 37 [v, w] k = some (.bool (decide (X = Y)), k) := (eC_SameItems _ _).trans (b_same hv hw hl)
end
set_option maxHeartbeats 32000000 in
theorem SameLetter_call {k : H} {c d : List AV} {l m : Ltr} (hc : IsL k c l) (hd : IsL k d m) : ∃ z, call fsC exC 15 [.agg c, .agg d] k = some (.bool (same l m), k ++ z) := by
  obtain ⟨v1, v2, rfl, h1, h2, b1, b2⟩ := hc
  obtain ⟨w1, w2, rfl, g1, g2, d1, d2⟩ := hd
  have s1 := h1.cells
  have s2 := h2.cells
  have t1 := g1.cells
  have t2 := g2.cells
  have e1 := c_told (k := k ++ [.row 21 [ltc l v1 v2] true true, .row 21 [ltc m w1 w2] true true]) (l := l) (m := m) (rds_app h1) (rds_app g1) b1
  have e2 := c_same (k := k ++ [.row 21 [ltc l v1 v2] true true, .row 21 [ltc m w1 w2] true true]) (rds_app h2) (rds_app g2) b2
  rw [call_eq fsC exC (f := 15) (sf := sf15) rfl]
  unfold same
  unfold ltc at *
  generalize decide (l.it = m.it) = q2 at *
  generalize sameT l m = q1 at *
  by_cases c0 : l.kind = m.kind
  rotate_left
  · have c0' : (l.kind == m.kind) = false := by simpa using c0
    simp [sf15, evB, recheck, wantsOp, AV.same, sames, eqCells, eqLeaf, toL_some, asc, fzero, fnone, List.map_cons, List.map_nil, resVals, resVal, resOf, partV, fillA, putCells, fillEls, strBin, minV, optNat, appendEls, elsOf, sliceSlV, sliceStrV, List.replicate, List.getElem?_append_left, List.getElem?_append_right, List.set_append_left, List.set_append_right, List.getElem?_set_self, List.getElem?_set_ne, c0, c0', s1.1, s1.2.1, s1.2.2, s2.1, s2.2.1, s2.2.2, t1.1, t1.2.1, t1.2.2, t2.1, t2.2.1, t2.2.2]
  have c0' : (l.kind == m.kind) = true := by simpa using c0
  by_cases c1 : l.frm = m.frm
  rotate_left
  · have c1' : (l.frm == m.frm) = false := by simpa using c1
    simp [sf15, evB, recheck, wantsOp, AV.same, sames, eqCells, eqLeaf, toL_some, asc, fzero, fnone, List.map_cons, List.map_nil, resVals, resVal, resOf, partV, fillA, putCells, fillEls, strBin, minV, optNat, appendEls, elsOf, sliceSlV, sliceStrV, List.replicate, List.getElem?_append_left, List.getElem?_append_right, List.set_append_left, List.set_append_right, List.getElem?_set_self, List.getElem?_set_ne, c0', c1, c1', s1.1, s1.2.1, s1.2.2, s2.1, s2.2.1, s2.2.2, t1.1, t1.2.1, t1.2.2, t2.1, t2.2.1, t2.2.2]
  have c1' : (l.frm == m.frm) = true := by simpa using c1
  by_cases c2 : l.dst = m.dst
  rotate_left
  · have c2' : (l.dst == m.dst) = false := by simpa using c2
    simp [sf15, evB, recheck, wantsOp, AV.same, sames, eqCells, eqLeaf, toL_some, asc, fzero, fnone, List.map_cons, List.map_nil, resVals, resVal, resOf, partV, fillA, putCells, fillEls, strBin, minV, optNat, appendEls, elsOf, sliceSlV, sliceStrV, List.replicate, List.getElem?_append_left, List.getElem?_append_right, List.set_append_left, List.set_append_right, List.getElem?_set_self, List.getElem?_set_ne, c0', c1', c2, c2', s1.1, s1.2.1, s1.2.2, s2.1, s2.2.1, s2.2.2, t1.1, t1.2.1, t1.2.2, t2.1, t2.2.1, t2.2.2]
  have c2' : (l.dst == m.dst) = true := by simpa using c2
  by_cases c3 : l.id = m.id
  rotate_left
  · have c3' : (l.id == m.id) = false := by simpa using c3
    simp [sf15, evB, recheck, wantsOp, AV.same, sames, eqCells, eqLeaf, toL_some, asc, fzero, fnone, List.map_cons, List.map_nil, resVals, resVal, resOf, partV, fillA, putCells, fillEls, strBin, minV, optNat, appendEls, elsOf, sliceSlV, sliceStrV, List.replicate, List.getElem?_append_left, List.getElem?_append_right, List.set_append_left, List.set_append_right, List.getElem?_set_self, List.getElem?_set_ne, c0', c1', c2', c3, c3', s1.1, s1.2.1, s1.2.2, s2.1, s2.2.1, s2.2.2, t1.1, t1.2.1, t1.2.2, t2.1, t2.2.1, t2.2.2]
  have c3' : (l.id == m.id) = true := by simpa using c3
  by_cases c4 : l.op = m.op
  rotate_left
  · have c4' : (l.op == m.op) = false := by simpa using c4
    simp [sf15, evB, recheck, wantsOp, AV.same, sames, eqCells, eqLeaf, toL_some, asc, fzero, fnone, List.map_cons, List.map_nil, resVals, resVal, resOf, partV, fillA, putCells, fillEls, strBin, minV, optNat, appendEls, elsOf, sliceSlV, sliceStrV, List.replicate, List.getElem?_append_left, List.getElem?_append_right, List.set_append_left, List.set_append_right, List.getElem?_set_self, List.getElem?_set_ne, c0', c1', c2', c3', c4, c4', s1.1, s1.2.1, s1.2.2, s2.1, s2.2.1, s2.2.2, t1.1, t1.2.1, t1.2.2, t2.1, t2.2.1, t2.2.2]
  have c4' : (l.op == m.op) = true := by simpa using c4
  by_cases c5 : l.key = m.key
  rotate_left
  · have c5' : (l.key == m.key) = false := by simpa using c5
    simp [sf15, evB, recheck, wantsOp, AV.same, sames, eqCells, eqLeaf, toL_some, asc, fzero, fnone, List.map_cons, List.map_nil, resVals, resVal, resOf, partV, fillA, putCells, fillEls, strBin, minV, optNat, appendEls, elsOf, sliceSlV, sliceStrV, List.replicate, List.getElem?_append_left, List.getElem?_append_right, List.set_append_left, List.set_append_right, List.getElem?_set_self, List.getElem?_set_ne, c0', c1', c2', c3', c4', c5, c5', s1.1, s1.2.1, s1.2.2, s2.1, s2.2.1, s2.2.2, t1.1, t1.2.1, t1.2.2, t2.1, t2.2.1, t2.2.2]
  have c5' : (l.key == m.key) = true := by simpa using c5
  by_cases c6 : l.value = m.value
  rotate_left
  · have c6' : (l.value == m.value) = false := by simpa using c6
    simp [sf15, evB, recheck, wantsOp, AV.same, sames, eqCells, eqLeaf, toL_some, asc, fzero, fnone, List.map_cons, List.map_nil, resVals, resVal, resOf, partV, fillA, putCells, fillEls, strBin, minV, optNat, appendEls, elsOf, sliceSlV, sliceStrV, List.replicate, List.getElem?_append_left, List.getElem?_append_right, List.set_append_left, List.set_append_right, List.getElem?_set_self, List.getElem?_set_ne, c0', c1', c2', c3', c4', c5', c6, c6', s1.1, s1.2.1, s1.2.2, s2.1, s2.2.1, s2.2.2, t1.1, t1.2.1, t1.2.2, t2.1, t2.2.1, t2.2.2]
  have c6' : (l.value == m.value) = true := by simpa using c6
  by_cases c7 : l.to2 = m.to2
  rotate_left
  · have c7' : (l.to2 == m.to2) = false := by simpa using c7
    simp [sf15, evB, recheck, wantsOp, AV.same, sames, eqCells, eqLeaf, toL_some, asc, fzero, fnone, List.map_cons, List.map_nil, resVals, resVal, resOf, partV, fillA, putCells, fillEls, strBin, minV, optNat, appendEls, elsOf, sliceSlV, sliceStrV, List.replicate, List.getElem?_append_left, List.getElem?_append_right, List.set_append_left, List.set_append_right, List.getElem?_set_self, List.getElem?_set_ne, c0', c1', c2', c3', c4', c5', c6', c7, c7', s1.1, s1.2.1, s1.2.2, s2.1, s2.2.1, s2.2.2, t1.1, t1.2.1, t1.2.2, t2.1, t2.2.1, t2.2.2]
  have c7' : (l.to2 == m.to2) = true := by simpa using c7
  by_cases c8 : l.most = m.most
  rotate_left
  · have c8' : (l.most == m.most) = false := by simpa using c8
    simp [sf15, evB, recheck, wantsOp, AV.same, sames, eqCells, eqLeaf, toL_some, asc, fzero, fnone, List.map_cons, List.map_nil, resVals, resVal, resOf, partV, fillA, putCells, fillEls, strBin, minV, optNat, appendEls, elsOf, sliceSlV, sliceStrV, List.replicate, List.getElem?_append_left, List.getElem?_append_right, List.set_append_left, List.set_append_right, List.getElem?_set_self, List.getElem?_set_ne, c0', c1', c2', c3', c4', c5', c6', c7', c8, c8', s1.1, s1.2.1, s1.2.2, s2.1, s2.2.1, s2.2.2, t1.1, t1.2.1, t1.2.2, t2.1, t2.2.1, t2.2.2]
  have c8' : (l.most == m.most) = true := by simpa using c8
  cases q1
  · simp [sf15, evB, recheck, wantsOp, AV.same, sames, eqCells, eqLeaf, toL_some, asc, fzero, fnone, List.map_cons, List.map_nil, resVals, resVal, resOf, partV, fillA, putCells, fillEls, strBin, minV, optNat, appendEls, elsOf, sliceSlV, sliceStrV, List.replicate, List.getElem?_append_left, List.getElem?_append_right, List.set_append_left, List.set_append_right, List.getElem?_set_self, List.getElem?_set_ne, c0', c1', c2', c3', c4', c5', c6', c7', c8', e1, s1.1, s1.2.1, s1.2.2, s2.1, s2.2.1, s2.2.2, t1.1, t1.2.1, t1.2.2, t2.1, t2.2.1, t2.2.2]
  by_cases c10 : l.af = m.af
  rotate_left
  · have c10' : (l.af == m.af) = false := by simpa using c10
    simp [sf15, evB, recheck, wantsOp, AV.same, sames, eqCells, eqLeaf, toL_some, asc, fzero, fnone, List.map_cons, List.map_nil, resVals, resVal, resOf, partV, fillA, putCells, fillEls, strBin, minV, optNat, appendEls, elsOf, sliceSlV, sliceStrV, List.replicate, List.getElem?_append_left, List.getElem?_append_right, List.set_append_left, List.set_append_right, List.getElem?_set_self, List.getElem?_set_ne, c0', c1', c2', c3', c4', c5', c6', c7', c8', e1, c10, c10', s1.1, s1.2.1, s1.2.2, s2.1, s2.2.1, s2.2.2, t1.1, t1.2.1, t1.2.2, t2.1, t2.2.1, t2.2.2]
  have c10' : (l.af == m.af) = true := by simpa using c10
  by_cases c11 : l.at_ = m.at_
  rotate_left
  · have c11' : (l.at_ == m.at_) = false := by simpa using c11
    simp [sf15, evB, recheck, wantsOp, AV.same, sames, eqCells, eqLeaf, toL_some, asc, fzero, fnone, List.map_cons, List.map_nil, resVals, resVal, resOf, partV, fillA, putCells, fillEls, strBin, minV, optNat, appendEls, elsOf, sliceSlV, sliceStrV, List.replicate, List.getElem?_append_left, List.getElem?_append_right, List.set_append_left, List.set_append_right, List.getElem?_set_self, List.getElem?_set_ne, c0', c1', c2', c3', c4', c5', c6', c7', c8', e1, c10', c11, c11', s1.1, s1.2.1, s1.2.2, s2.1, s2.2.1, s2.2.2, t1.1, t1.2.1, t1.2.2, t2.1, t2.2.1, t2.2.2]
  have c11' : (l.at_ == m.at_) = true := by simpa using c11
  by_cases c12 : l.ep = m.ep
  rotate_left
  · have c12' : (l.ep == m.ep) = false := by simpa using c12
    simp [sf15, evB, recheck, wantsOp, AV.same, sames, eqCells, eqLeaf, toL_some, asc, fzero, fnone, List.map_cons, List.map_nil, resVals, resVal, resOf, partV, fillA, putCells, fillEls, strBin, minV, optNat, appendEls, elsOf, sliceSlV, sliceStrV, List.replicate, List.getElem?_append_left, List.getElem?_append_right, List.set_append_left, List.set_append_right, List.getElem?_set_self, List.getElem?_set_ne, c0', c1', c2', c3', c4', c5', c6', c7', c8', e1, c10', c11', c12, c12', s1.1, s1.2.1, s1.2.2, s2.1, s2.2.1, s2.2.2, t1.1, t1.2.1, t1.2.2, t2.1, t2.2.1, t2.2.2]
  have c12' : (l.ep == m.ep) = true := by simpa using c12
  cases q2
  · simp [sf15, evB, recheck, wantsOp, AV.same, sames, eqCells, eqLeaf, toL_some, asc, fzero, fnone, List.map_cons, List.map_nil, resVals, resVal, resOf, partV, fillA, putCells, fillEls, strBin, minV, optNat, appendEls, elsOf, sliceSlV, sliceStrV, List.replicate, List.getElem?_append_left, List.getElem?_append_right, List.set_append_left, List.set_append_right, List.getElem?_set_self, List.getElem?_set_ne, c0', c1', c2', c3', c4', c5', c6', c7', c8', e1, c10', c11', c12', e2, s1.1, s1.2.1, s1.2.2, s2.1, s2.2.1, s2.2.2, t1.1, t1.2.1, t1.2.2, t2.1, t2.2.1, t2.2.2]
  by_cases c14 : l.n = m.n
  rotate_left
  · have c14' : (l.n == m.n) = false := by simpa using c14
    simp [sf15, evB, recheck, wantsOp, AV.same, sames, eqCells, eqLeaf, toL_some, asc, fzero, fnone, List.map_cons, List.map_nil, resVals, resVal, resOf, partV, fillA, putCells, fillEls, strBin, minV, optNat, appendEls, elsOf, sliceSlV, sliceStrV, List.replicate, List.getElem?_append_left, List.getElem?_append_right, List.set_append_left, List.set_append_right, List.getElem?_set_self, List.getElem?_set_ne, c0', c1', c2', c3', c4', c5', c6', c7', c8', e1, c10', c11', c12', e2, c14, c14', s1.1, s1.2.1, s1.2.2, s2.1, s2.2.1, s2.2.2, t1.1, t1.2.1, t1.2.2, t2.1, t2.2.1, t2.2.2]
  have c14' : (l.n == m.n) = true := by simpa using c14
  by_cases c15 : l.node = m.node
  rotate_left
  · have c15' : (l.node == m.node) = false := by simpa using c15
    simp [sf15, evB, recheck, wantsOp, AV.same, sames, eqCells, eqLeaf, toL_some, asc, fzero, fnone, List.map_cons, List.map_nil, resVals, resVal, resOf, partV, fillA, putCells, fillEls, strBin, minV, optNat, appendEls, elsOf, sliceSlV, sliceStrV, List.replicate, List.getElem?_append_left, List.getElem?_append_right, List.set_append_left, List.set_append_right, List.getElem?_set_self, List.getElem?_set_ne, c0', c1', c2', c3', c4', c5', c6', c7', c8', e1, c10', c11', c12', e2, c14', c15, c15', s1.1, s1.2.1, s1.2.2, s2.1, s2.2.1, s2.2.2, t1.1, t1.2.1, t1.2.2, t2.1, t2.2.1, t2.2.2]
  have c15' : (l.node == m.node) = true := by simpa using c15
  simp [sf15, evB, recheck, wantsOp, AV.same, sames, eqCells, eqLeaf, toL_some, asc, fzero, fnone, List.map_cons, List.map_nil, resVals, resVal, resOf, partV, fillA, putCells, fillEls, strBin, minV, optNat, appendEls, elsOf, sliceSlV, sliceStrV, List.replicate, List.getElem?_append_left, List.getElem?_append_right, List.set_append_left, List.set_append_right, List.getElem?_set_self, List.getElem?_set_ne, c0', c1', c2', c3', c4', c5', c6', c7', c8', e1, c10', c11', c12', e2, c14', c15', s1.1, s1.2.1, s1.2.2, s2.1, s2.2.1, s2.2.2, t1.1, t1.2.1, t1.2.2, t2.1, t2.2.1, t2.2.2]
def lD : List Nat := [15]
def fsD := fsBut fsC lD
theorem fsD_ok : FsOk Tryz.prog fsD := fsBut_ok fsC_ok _
noncomputable def exD : FuncId → List AV → M AV := exDrop lD (call fsC exC) exC
theorem exD_ok : CfSound Tryz.prog exD := exDrop_ok _ (call_sound fsC exC fsC_ok exC_ok) exC_ok
theorem eD {f : FuncId} (hf : fsD f = none) (vs : List AV) (h : H) : call fsD exD f vs h = exD f vs h := call_ex fsD exD hf _ _
theorem dD {f : FuncId} {vs : List AV} {h z : H} {v : AV} (hf : lD.contains f = true) (hn : fsD f = none) (hc : call fsC exC f vs h = some (v, h ++ z)) (hv : flatA v = true) : call fsD exD f vs h = some (v, h) := (eD hn _ _).trans (drop_eq hf hc hv)
theorem oD {f : FuncId} (hX : fsD f = none) (hl : lD.contains f = false) (hP : fsC f = none) (vs : List AV) (h : H) : call fsD exD f vs h = call fsC exC f vs h := by
  rw [call_ex fsD exD hX, call_ex fsC exC hP]
  unfold exD exDrop
  rw [if_neg (by rw [hl]; decide)]
theorem eD_WriteString (vs : List AV) (h : H) : call fsD exD 20 vs h = call fsC exC 20 vs h := oD rfl rfl rfl _ _
theorem eD_String (vs : List AV) (h : H) : call fsD exD 24 vs h = call fsC exC 24 vs h := oD rfl rfl rfl _ _
theorem eD_Fields (vs : List AV) (h : H) : call fsD exD 43 vs h = call fsC exC 43 vs h := oD rfl rfl rfl _ _
theorem eD_Num (vs : List AV) (h : H) : call fsD exD 72 vs h = call fsC exC 72 vs h := oD rfl rfl rfl _ _
theorem eD_Text (vs : List AV) (h : H) : call fsD exD 75 vs h = call fsC exC 75 vs h := oD rfl rfl rfl _ _
theorem eD_rNum (vs : List AV) (h : H) : call fsD exD 32 vs h = call fsC exC 32 vs h := oD rfl rfl rfl _ _
theorem eD_rText (vs : List AV) (h : H) : call fsD exD 35 vs h = call fsC exC 35 vs h := oD rfl rfl rfl _ _
theorem eD_Wide (vs : List AV) (h : H) : call fsD exD 21 vs h = call fsC exC 21 vs h := oD rfl rfl rfl _ _
theorem eD_rWide (vs : List AV) (h : H) : call fsD exD 33 vs h = call fsC exC 33 vs h := oD rfl rfl rfl _ _
theorem eD_From (vs : List AV) (h : H) : call fsD exD 38 vs h = call fsC exC 38 vs h := oD rfl rfl rfl _ _
theorem eD_pNum (vs : List AV) (h : H) : call fsD exD 87 vs h = call fsC exC 87 vs h := oD rfl rfl rfl _ _
theorem eD_rrNum (vs : List AV) (h : H) : call fsD exD 89 vs h = call fsC exC 89 vs h := oD rfl rfl rfl _ _
theorem eD_pText (vs : List AV) (h : H) : call fsD exD 86 vs h = call fsC exC 86 vs h := oD rfl rfl rfl _ _
theorem eD_rrText (vs : List AV) (h : H) : call fsD exD 92 vs h = call fsC exC 92 vs h := oD rfl rfl rfl _ _
theorem eD_pWide (vs : List AV) (h : H) : call fsD exD 84 vs h = call fsC exC 84 vs h := oD rfl rfl rfl _ _
theorem eD_rrWide (vs : List AV) (h : H) : call fsD exD 90 vs h = call fsC exC 90 vs h := oD rfl rfl rfl _ _
theorem eD_Bad (vs : List AV) (h : H) : call fsD exD 88 vs h = call fsC exC 88 vs h := oD rfl rfl rfl _ _
theorem eD_End (vs : List AV) (h : H) : call fsD exD 40 vs h = call fsC exC 40 vs h := oD rfl rfl rfl _ _
theorem eD_small (vs : List AV) (h : H) : call fsD exD 28 vs h = call fsC exC 28 vs h := oD rfl rfl rfl _ _
theorem eD_wide (vs : List AV) (h : H) : call fsD exD 29 vs h = call fsC exC 29 vs h := oD rfl rfl rfl _ _
theorem eD_texts (vs : List AV) (h : H) : call fsD exD 30 vs h = call fsC exC 30 vs h := oD rfl rfl rfl _ _
theorem eD_items (vs : List AV) (h : H) : call fsD exD 31 vs h = call fsC exC 31 vs h := oD rfl rfl rfl _ _
theorem eD_rlines (vs : List AV) (h : H) : call fsD exD 27 vs h = call fsC exC 27 vs h := oD rfl rfl rfl _ _
theorem eD_SameItems (vs : List AV) (h : H) : call fsD exD 37 vs h = call fsC exC 37 vs h := oD rfl rfl rfl _ _
theorem eD_byteful (vs : List AV) (h : H) : call fsD exD 25 vs h = call fsC exC 25 vs h := oD rfl rfl rfl _ _
theorem eD_numeral (vs : List AV) (h : H) : call fsD exD 26 vs h = call fsC exC 26 vs h := oD rfl rfl rfl _ _
theorem eD_rflag (vs : List AV) (h : H) : call fsD exD 36 vs h = call fsC exC 36 vs h := oD rfl rfl rfl _ _
theorem eD_Right (vs : List AV) (h : H) : call fsD exD 9 vs h = call fsC exC 9 vs h := oD rfl rfl rfl _ _
theorem eD_rLetter (vs : List AV) (h : H) : call fsD exD 8 vs h = call fsC exC 8 vs h := oD rfl rfl rfl _ _
theorem eD_SameTold (vs : List AV) (h : H) : call fsD exD 42 vs h = call fsC exC 42 vs h := oD rfl rfl rfl _ _
/-- A packet's cells. -/
def pktc (p : Pkt) (v1 v2 : AV) : List AV := .int .i64 p.frm :: .int .i64 p.dst :: .int .i64 p.seq :: .int .i64 p.ack :: ltc p.y v1 v2
def IsP (k : H) (c : List AV) (p : Pkt) : Prop :=
  ∃ v1 v2, c = pktc p v1 v2 ∧ RdS k 2 v1 (p.y.ti.map itc) ∧ RdS k 2 v2 (p.y.it.map itc) ∧ p.y.ti.length < 4611686018427387904 ∧ p.y.it.length < 4611686018427387904
theorem IsP.app {k : H} {c : List AV} {p : Pkt} (h : IsP k c p) (z : H) : IsP (k ++ z) c p := by
  obtain ⟨v1, v2, rfl, h1, h2, b1, b2⟩ := h
  exact ⟨v1, v2, rfl, rds_app h1, rds_app h2, b1, b2⟩
theorem d_same {k : H} {c d : List AV} {l m : Ltr} (hc : IsL k c l) (hd : IsL k d m) : call fsD exD 15 [.agg c, .agg d] k = some (.bool (same l m), k) := by
  obtain ⟨z, e⟩ := SameLetter_call hc hd
  exact dD rfl rfl e rfl
def sameP (p q : Pkt) : Bool := (p.frm == q.frm) && ((p.dst == q.dst) && ((p.seq == q.seq) && ((p.ack == q.ack) && same p.y q.y)))
theorem sameP_iff {p q : Pkt} : sameP p q = true ↔ p = q := by
  cases p; cases q
  simp only [sameP, Bool.and_eq_true, beq_iff_eq, same_iff, Pkt.mk.injEq]
end Go.Proofs.YtgnenipkebelfaaGreatDoor.Lt
