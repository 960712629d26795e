/- Letters: whether one may be (written by genlt2.py) -/
import Derived.Test.YtgnenipkebelfaaGreatDoorLtC
set_option maxRecDepth 100000
set_option linter.unusedVariables false
set_option linter.unusedSimpArgs false
namespace Go.Proofs.YtgnenipkebelfaaGreatDoor.Lt
open Go Go.Eng F Pk Bk

def lB : List Nat := [28, 29, 30, 31, 27, 37, 25, 26, 36]
def fsB := fsBut fsA lB
theorem fsB_ok : FsOk Tryz.prog fsB := fsBut_ok fsA_ok _
noncomputable def exB : FuncId → List AV → M AV := exDrop lB (call fsA exA) exA
theorem exB_ok : CfSound Tryz.prog exB := exDrop_ok _ (call_sound fsA exA fsA_ok exA_ok) exA_ok
theorem eB {f : FuncId} (hf : fsB f = none) (vs : List AV) (h : H) : call fsB exB f vs h = exB f vs h := call_ex fsB exB hf _ _
theorem dB {f : FuncId} {vs : List AV} {h z : H} {v : AV} (hf : lB.contains f = true) (hn : fsB f = none) (hc : call fsA exA f vs h = some (v, h ++ z)) (hv : flatA v = true) : call fsB exB f vs h = some (v, h) := (eB hn _ _).trans (drop_eq hf hc hv)
theorem oB {f : FuncId} (hX : fsB f = none) (hl : lB.contains f = false) (hP : fsA f = none) (vs : List AV) (h : H) : call fsB exB f vs h = call fsA exA f vs h := by
  rw [call_ex fsB exB hX, call_ex fsA exA hP]
  unfold exB exDrop
  rw [if_neg (by rw [hl]; decide)]
theorem eB_WriteString (vs : List AV) (h : H) : call fsB exB 20 vs h = call fsA exA 20 vs h := oB rfl rfl rfl _ _
theorem eB_String (vs : List AV) (h : H) : call fsB exB 24 vs h = call fsA exA 24 vs h := oB rfl rfl rfl _ _
theorem eB_Fields (vs : List AV) (h : H) : call fsB exB 43 vs h = call fsA exA 43 vs h := oB rfl rfl rfl _ _
theorem eB_Num (vs : List AV) (h : H) : call fsB exB 72 vs h = call fsA exA 72 vs h := oB rfl rfl rfl _ _
theorem eB_Text (vs : List AV) (h : H) : call fsB exB 75 vs h = call fsA exA 75 vs h := oB rfl rfl rfl _ _
theorem eB_rNum (vs : List AV) (h : H) : call fsB exB 32 vs h = call fsA exA 32 vs h := oB rfl rfl rfl _ _
theorem eB_rText (vs : List AV) (h : H) : call fsB exB 35 vs h = call fsA exA 35 vs h := oB rfl rfl rfl _ _
theorem eB_Wide (vs : List AV) (h : H) : call fsB exB 21 vs h = call fsA exA 21 vs h := oB rfl rfl rfl _ _
theorem eB_rWide (vs : List AV) (h : H) : call fsB exB 33 vs h = call fsA exA 33 vs h := oB rfl rfl rfl _ _
theorem eB_From (vs : List AV) (h : H) : call fsB exB 38 vs h = call fsA exA 38 vs h := oB rfl rfl rfl _ _
theorem eB_pNum (vs : List AV) (h : H) : call fsB exB 87 vs h = call fsA exA 87 vs h := oB rfl rfl rfl _ _
theorem eB_rrNum (vs : List AV) (h : H) : call fsB exB 89 vs h = call fsA exA 89 vs h := oB rfl rfl rfl _ _
theorem eB_pText (vs : List AV) (h : H) : call fsB exB 86 vs h = call fsA exA 86 vs h := oB rfl rfl rfl _ _
theorem eB_rrText (vs : List AV) (h : H) : call fsB exB 92 vs h = call fsA exA 92 vs h := oB rfl rfl rfl _ _
theorem eB_pWide (vs : List AV) (h : H) : call fsB exB 84 vs h = call fsA exA 84 vs h := oB rfl rfl rfl _ _
theorem eB_rrWide (vs : List AV) (h : H) : call fsB exB 90 vs h = call fsA exA 90 vs h := oB rfl rfl rfl _ _
theorem eB_Bad (vs : List AV) (h : H) : call fsB exB 88 vs h = call fsA exA 88 vs h := oB rfl rfl rfl _ _
theorem eB_End (vs : List AV) (h : H) : call fsB exB 40 vs h = call fsA exA 40 vs h := oB rfl rfl rfl _ _

section
variable {k : H} {v w : AV}
theorem b_small {L : List Int} (hv : RdS k 1 v (L.map intc)) (hl : L.length < 4611686018427387904) : call fsB exB 28 [v] k = some (.bool (L.all byteful), k) := by
  obtain ⟨z, e⟩ := small_call hv hl
  exact dB rfl rfl e rfl
theorem b_wide {L : List Int} (hv : RdS k 1 v (L.map intc)) (hl : L.length < 4611686018427387904) : call fsB exB 29 [v] k = some (.bool (L.all numeral), k) := by
  obtain ⟨z, e⟩ := wide_call hv hl
  exact dB rfl rfl e rfl
theorem b_texts {L : List (List UInt8)} (hv : RdS k 1 v (L.map strc)) (hl : L.length < 4611686018427387904) : call fsB exB 30 [v] k = some (.bool (L.all short), k) := by
  obtain ⟨z, e⟩ := texts_call hv hl
  exact dB rfl rfl e rfl
theorem b_items {L : List It} (hv : RdS k 2 v (L.map itc)) (hl : L.length < 4611686018427387904) : call fsB exB 31 [v] k = some (.bool (itemsOk L), k) := by
  obtain ⟨z, e⟩ := items_call hv hl
  exact dB rfl rfl e rfl
theorem b_lines {L : List It} (hv : RdS k 2 v (L.map itc)) (hl : L.length < 4611686018427387904) : call fsB exB 27 [v] k = some (.bool (itemsOk L), k) := by
  obtain ⟨z, e⟩ := lines_call hv hl
  exact dB rfl rfl e rfl
theorem b_same {X Y : List It} (hv : RdS k 2 v (X.map itc)) (hw : RdS k 2 w (Y.map itc)) (hl : X.length < 4611686018427387904) : call fsB exB 37 [v, w] k = some (.bool (decide (X = Y)), k) := by
  obtain ⟨z, e⟩ := same_call hv hw hl
  exact dB rfl rfl e rfl
theorem b_byteful (x : Int) (k : H) : call fsB exB 25 [.int .i64 x] k = some (.bool (byteful x), k) := by
  obtain ⟨z, e⟩ := byteful_call x k
  exact dB rfl rfl e rfl
theorem b_numeral (x : Int) (k : H) : call fsB exB 26 [.int .i64 x] k = some (.bool (numeral x), k) := by
  obtain ⟨z, e⟩ := numeral_call x k
  exact dB rfl rfl e rfl
theorem b_flag (x : Bool) (k : H) : call fsB exB 36 [.bool x] k = some (.int .i64 (flagI x), k) := by
  obtain ⟨z, e⟩ := rflag_call x k
  exact dB rfl rfl e rfl
end
/-- A letter's cells. -/
def ltc (l : Ltr) (v1 v2 : AV) : List AV :=
  [.int .i64 l.kind, .int .i64 l.frm, .int .i64 l.dst, .int .i64 l.id, .int .i64 l.op, .str l.key, .str l.value, .str l.to2, .int .i64 l.most, .int .i64 l.errno, .str l.tv, v1, .bool l.more, .str l.next, .int .i64 l.tnode, .int .u64 l.af, .int .u64 l.at_, .int .i64 l.ep, v2, .int .i64 l.n, .int .i64 l.node]
def IsL (k : H) (c : List AV) (l : Ltr) : Prop :=
  ∃ v1 v2, c = ltc l v1 v2 ∧ RdS k 2 v1 (l.ti.map itc) ∧ RdS k 2 v2 (l.it.map itc) ∧ l.ti.length < 4611686018427387904 ∧ l.it.length < 4611686018427387904
theorem IsL.app {k : H} {c : List AV} {l : Ltr} (h : IsL k c l) (z : H) : IsL (k ++ z) c l := by
  obtain ⟨v1, v2, rfl, h1, h2, b1, b2⟩ := h
  exact ⟨v1, v2, rfl, rds_app h1, rds_app h2, b1, b2⟩
set_option maxHeartbeats 8000000 in
theorem Right_call {k : H} {c : List AV} {l : Ltr} (hc : IsL k c l) : ∃ z, call fsB exB 9 [.agg c] k = some (.bool (right l), k ++ z) := by
  obtain ⟨v1, v2, rfl, h1, h2, b1, b2⟩ := hc
  have s1 := h1.cells
  have s2 := h2.cells
  have e1 := b_small (k := k ++ [Blk.row 21 [ltc l v1 v2] true true, Blk.row 1 [[.int .i64 l.frm], [.int .i64 l.dst], [.int .i64 l.node], [.int .i64 l.op], [.int .i64 l.errno], [.int .i64 l.tnode]] true true]) (v := .slice (k.length + 1) 1 0 6 6 true) (L := [l.frm, l.dst, l.node, l.op, l.errno, l.tnode]) (.inr (.inr ⟨k.length + 1, 6, true, [[.int .i64 l.frm], [.int .i64 l.dst], [.int .i64 l.node], [.int .i64 l.op], [.int .i64 l.errno], [.int .i64 l.tnode]], true, true, rfl, by simp, rfl, by simp⟩)) (by simp)
  have e2 := b_wide (k := k ++ [Blk.row 21 [ltc l v1 v2] true true, Blk.row 1 [[.int .i64 l.frm], [.int .i64 l.dst], [.int .i64 l.node], [.int .i64 l.op], [.int .i64 l.errno], [.int .i64 l.tnode]] true true, Blk.row 1 [[.int .i64 l.id], [.int .i64 l.ep], [.int .i64 l.n], [.int .i64 l.most]] true true]) (v := .slice (k.length + 2) 1 0 4 4 true) (L := [l.id, l.ep, l.n, l.most]) (.inr (.inr ⟨k.length + 2, 4, true, [[.int .i64 l.id], [.int .i64 l.ep], [.int .i64 l.n], [.int .i64 l.most]], true, true, rfl, by simp, rfl, by simp⟩)) (by simp)
  have e3 := b_texts (k := k ++ [Blk.row 21 [ltc l v1 v2] true true, Blk.row 1 [[.int .i64 l.frm], [.int .i64 l.dst], [.int .i64 l.node], [.int .i64 l.op], [.int .i64 l.errno], [.int .i64 l.tnode]] true true, Blk.row 1 [[.int .i64 l.id], [.int .i64 l.ep], [.int .i64 l.n], [.int .i64 l.most]] true true, Blk.row 1 [[.str l.key], [.str l.value], [.str l.to2], [.str l.tv], [.str l.next]] true true]) (v := .slice (k.length + 3) 1 0 5 5 true) (L := [l.key, l.value, l.to2, l.tv, l.next]) (.inr (.inr ⟨k.length + 3, 5, true, [[.str l.key], [.str l.value], [.str l.to2], [.str l.tv], [.str l.next]], true, true, rfl, by simp, rfl, by simp⟩)) (by simp)
  have e4 := b_items (k := k ++ [Blk.row 21 [ltc l v1 v2] true true, Blk.row 1 [[.int .i64 l.frm], [.int .i64 l.dst], [.int .i64 l.node], [.int .i64 l.op], [.int .i64 l.errno], [.int .i64 l.tnode]] true true, Blk.row 1 [[.int .i64 l.id], [.int .i64 l.ep], [.int .i64 l.n], [.int .i64 l.most]] true true, Blk.row 1 [[.str l.key], [.str l.value], [.str l.to2], [.str l.tv], [.str l.next]] true true]) (rds_app h2) b2
  have e5 := b_items (k := k ++ [Blk.row 21 [ltc l v1 v2] true true, Blk.row 1 [[.int .i64 l.frm], [.int .i64 l.dst], [.int .i64 l.node], [.int .i64 l.op], [.int .i64 l.errno], [.int .i64 l.tnode]] true true, Blk.row 1 [[.int .i64 l.id], [.int .i64 l.ep], [.int .i64 l.n], [.int .i64 l.most]] true true, Blk.row 1 [[.str l.key], [.str l.value], [.str l.to2], [.str l.tv], [.str l.next]] true true]) (rds_app h1) b1
  rw [call_eq fsB exB (f := 9) (sf := sf9) rfl]
  have p1 : ([l.frm, l.dst, l.node, l.op, l.errno, l.tnode].all byteful) = (byteful l.frm && byteful l.dst && byteful l.node && byteful l.op && byteful l.errno && byteful l.tnode) := by simp [Bool.and_assoc]
  have p2 : ([l.id, l.ep, l.n, l.most].all numeral) = (numeral l.id && numeral l.ep && numeral l.n && numeral l.most) := by simp [Bool.and_assoc]
  have p3 : ([l.key, l.value, l.to2, l.tv, l.next].all short) = (short l.key && short l.value && short l.to2 && short l.tv && short l.next) := by simp [Bool.and_assoc]
  rw [p1] at e1
  rw [p2] at e2
  rw [p3] at e3
  unfold right
  unfold ltc at *
  generalize (byteful l.frm && byteful l.dst && byteful l.node && byteful l.op && byteful l.errno && byteful l.tnode) = q1 at *
  generalize (numeral l.id && numeral l.ep && numeral l.n && numeral l.most) = q2 at *
  generalize (short l.key && short l.value && short l.to2 && short l.tv && short l.next) = q3 at *
  generalize itemsOk l.it = q4 at *
  generalize itemsOk l.ti = q5 at *
  by_cases a1 : l.kind < 1
  · have a1' : ¬ 1 ≤ l.kind := by omega
    simp [sf9, evB, recheck, wantsOp, AV.same, sames, eqCells, eqLeaf, toL_some, asc, fzero, fnone, List.map_cons, List.map_nil, resVals, resVal, resOf, partV, fillA, putCells, fillEls, strBin, minV, optNat, appendEls, elsOf, sliceSlV, sliceStrV, List.replicate, List.getElem?_append_left, List.getElem?_append_right, List.set_append_left, List.set_append_right, List.getElem?_set_self, List.getElem?_set_ne, a1, a1', s1.1, s1.2.1, s1.2.2, s2.1, s2.2.1, s2.2.2]
  · have a1' : 1 ≤ l.kind := by omega
    by_cases a2 : 16 < l.kind
    · have a2' : ¬ l.kind ≤ 16 := by omega
      simp [sf9, evB, recheck, wantsOp, AV.same, sames, eqCells, eqLeaf, toL_some, asc, fzero, fnone, List.map_cons, List.map_nil, resVals, resVal, resOf, partV, fillA, putCells, fillEls, strBin, minV, optNat, appendEls, elsOf, sliceSlV, sliceStrV, List.replicate, List.getElem?_append_left, List.getElem?_append_right, List.set_append_left, List.set_append_right, List.getElem?_set_self, List.getElem?_set_ne, a1, a1', a2, a2', s1.1, s1.2.1, s1.2.2, s2.1, s2.2.1, s2.2.2]
    · have a2' : l.kind ≤ 16 := by omega
      cases q1
      · simp [sf9, evB, recheck, wantsOp, AV.same, sames, eqCells, eqLeaf, toL_some, asc, fzero, fnone, List.map_cons, List.map_nil, resVals, resVal, resOf, partV, fillA, putCells, fillEls, strBin, minV, optNat, appendEls, elsOf, sliceSlV, sliceStrV, List.replicate, List.getElem?_append_left, List.getElem?_append_right, List.set_append_left, List.set_append_right, List.getElem?_set_self, List.getElem?_set_ne, a1, a1', a2, a2', e1, s1.1, s1.2.1, s1.2.2, s2.1, s2.2.1, s2.2.2]
      · cases q2
        · simp [sf9, evB, recheck, wantsOp, AV.same, sames, eqCells, eqLeaf, toL_some, asc, fzero, fnone, List.map_cons, List.map_nil, resVals, resVal, resOf, partV, fillA, putCells, fillEls, strBin, minV, optNat, appendEls, elsOf, sliceSlV, sliceStrV, List.replicate, List.getElem?_append_left, List.getElem?_append_right, List.set_append_left, List.set_append_right, List.getElem?_set_self, List.getElem?_set_ne, a1, a1', a2, a2', e1, e2, s1.1, s1.2.1, s1.2.2, s2.1, s2.2.1, s2.2.2]
        · cases q3
          · simp [sf9, evB, recheck, wantsOp, AV.same, sames, eqCells, eqLeaf, toL_some, asc, fzero, fnone, List.map_cons, List.map_nil, resVals, resVal, resOf, partV, fillA, putCells, fillEls, strBin, minV, optNat, appendEls, elsOf, sliceSlV, sliceStrV, List.replicate, List.getElem?_append_left, List.getElem?_append_right, List.set_append_left, List.set_append_right, List.getElem?_set_self, List.getElem?_set_ne, a1, a1', a2, a2', e1, e2, e3, s1.1, s1.2.1, s1.2.2, s2.1, s2.2.1, s2.2.2]
          · cases q4
            · simp [sf9, evB, recheck, wantsOp, AV.same, sames, eqCells, eqLeaf, toL_some, asc, fzero, fnone, List.map_cons, List.map_nil, resVals, resVal, resOf, partV, fillA, putCells, fillEls, strBin, minV, optNat, appendEls, elsOf, sliceSlV, sliceStrV, List.replicate, List.getElem?_append_left, List.getElem?_append_right, List.set_append_left, List.set_append_right, List.getElem?_set_self, List.getElem?_set_ne, a1, a1', a2, a2', e1, e2, e3, e4, s1.1, s1.2.1, s1.2.2, s2.1, s2.2.1, s2.2.2]
            · simp [sf9, evB, recheck, wantsOp, AV.same, sames, eqCells, eqLeaf, toL_some, asc, fzero, fnone, List.map_cons, List.map_nil, resVals, resVal, resOf, partV, fillA, putCells, fillEls, strBin, minV, optNat, appendEls, elsOf, sliceSlV, sliceStrV, List.replicate, List.getElem?_append_left, List.getElem?_append_right, List.set_append_left, List.set_append_right, List.getElem?_set_self, List.getElem?_set_ne, a1, a1', a2, a2', e1, e2, e3, e4, e5, s1.1, s1.2.1, s1.2.2, s2.1, s2.2.1, s2.2.2]
set_option maxHeartbeats 16000000 in
theorem rLetter_call {k : H} {c : List AV} {l : Ltr} (hc : IsL k c l) : ∃ z, call fsB exB 8 [.agg c] k = some (.bool (right l), k ++ z) := by
  obtain ⟨v1, v2, rfl, h1, h2, b1, b2⟩ := hc
  have s1 := h1.cells
  have s2 := h2.cells
  have e1 := b_lines (k := k ++ [Blk.row 21 [ltc l v1 v2] true true]) (rds_app h2) b2
  have e2 := b_lines (k := k ++ [Blk.row 21 [ltc l v1 v2] true true, Blk.row 5 [[.int .i64 l.op, .str l.key, .str l.value, .str l.to2, .int .i64 l.most]] true true, Blk.row 6 [[.int .i64 l.errno, .str l.tv, v1, .bool l.more, .str l.next, .int .i64 l.tnode]] true true]) (rds_app h1) b1
  have hr : right l = (decide (1 ≤ l.kind) && (decide (l.kind ≤ 16) && (byteful l.frm && (byteful l.dst && (byteful l.node && (numeral l.id && (numeral l.ep && (numeral l.n && (itemsOk l.it && (byteful l.op && (short l.key && (short l.value && (short l.to2 && (numeral l.most && (decide (0 ≤ l.errno) && (decide (l.errno ≤ 255) && (short l.tv && (short l.next && (itemsOk l.ti && (byteful l.tnode)))))))))))))))))))) := by
    have hb : byteful l.errno = (decide (0 ≤ l.errno) && decide (l.errno ≤ 255)) := rfl
    unfold right
    rw [hb]
    ac_rfl
  have t1 : short l.key = decide (l.key.length ≤ 255) := rfl
  rw [hr, call_eq fsB exB (f := 8) (sf := sf8) rfl]
  clear hr t1
  unfold ltc at *
  generalize hq5 : itemsOk l.it = q5 at *
  generalize hq6 : itemsOk l.ti = q6 at *
  by_cases a1 : l.kind < 1
  · have a1' : ¬ 1 ≤ l.kind := by omega
    simp [sf8, evB, recheck, wantsOp, AV.same, sames, eqCells, eqLeaf, toL_some, asc, fzero, fnone, List.map_cons, List.map_nil, resVals, resVal, resOf, partV, fillA, putCells, fillEls, strBin, minV, optNat, appendEls, elsOf, sliceSlV, sliceStrV, List.replicate, List.getElem?_append_left, List.getElem?_append_right, List.set_append_left, List.set_append_right, List.getElem?_set_self, List.getElem?_set_ne, a1, a1', s1.1, s1.2.1, s1.2.2, s2.1, s2.2.1, s2.2.2]
  have a1' : 1 ≤ l.kind := by omega
  by_cases a2 : 16 < l.kind
  · have a2' : ¬ l.kind ≤ 16 := by omega
    simp [sf8, evB, recheck, wantsOp, AV.same, sames, eqCells, eqLeaf, toL_some, asc, fzero, fnone, List.map_cons, List.map_nil, resVals, resVal, resOf, partV, fillA, putCells, fillEls, strBin, minV, optNat, appendEls, elsOf, sliceSlV, sliceStrV, List.replicate, List.getElem?_append_left, List.getElem?_append_right, List.set_append_left, List.set_append_right, List.getElem?_set_self, List.getElem?_set_ne, a1, a1', a2, a2', s1.1, s1.2.1, s1.2.2, s2.1, s2.2.1, s2.2.2]
  have a2' : l.kind ≤ 16 := by omega
  cases g1 : byteful l.frm
  · simp [sf8, evB, recheck, wantsOp, AV.same, sames, eqCells, eqLeaf, toL_some, asc, fzero, fnone, List.map_cons, List.map_nil, resVals, resVal, resOf, partV, fillA, putCells, fillEls, strBin, minV, optNat, appendEls, elsOf, sliceSlV, sliceStrV, List.replicate, List.getElem?_append_left, List.getElem?_append_right, List.set_append_left, List.set_append_right, List.getElem?_set_self, List.getElem?_set_ne, a1, a1', a2, a2', g1, b_byteful, s1.1, s1.2.1, s1.2.2, s2.1, s2.2.1, s2.2.2]
  cases g2 : byteful l.dst
  · simp [sf8, evB, recheck, wantsOp, AV.same, sames, eqCells, eqLeaf, toL_some, asc, fzero, fnone, List.map_cons, List.map_nil, resVals, resVal, resOf, partV, fillA, putCells, fillEls, strBin, minV, optNat, appendEls, elsOf, sliceSlV, sliceStrV, List.replicate, List.getElem?_append_left, List.getElem?_append_right, List.set_append_left, List.set_append_right, List.getElem?_set_self, List.getElem?_set_ne, a1, a1', a2, a2', g1, b_byteful, g2, b_byteful, s1.1, s1.2.1, s1.2.2, s2.1, s2.2.1, s2.2.2]
  cases g3 : byteful l.node
  · simp [sf8, evB, recheck, wantsOp, AV.same, sames, eqCells, eqLeaf, toL_some, asc, fzero, fnone, List.map_cons, List.map_nil, resVals, resVal, resOf, partV, fillA, putCells, fillEls, strBin, minV, optNat, appendEls, elsOf, sliceSlV, sliceStrV, List.replicate, List.getElem?_append_left, List.getElem?_append_right, List.set_append_left, List.set_append_right, List.getElem?_set_self, List.getElem?_set_ne, a1, a1', a2, a2', g1, b_byteful, g2, b_byteful, g3, b_byteful, s1.1, s1.2.1, s1.2.2, s2.1, s2.2.1, s2.2.2]
  cases g4 : numeral l.id
  · simp [sf8, evB, recheck, wantsOp, AV.same, sames, eqCells, eqLeaf, toL_some, asc, fzero, fnone, List.map_cons, List.map_nil, resVals, resVal, resOf, partV, fillA, putCells, fillEls, strBin, minV, optNat, appendEls, elsOf, sliceSlV, sliceStrV, List.replicate, List.getElem?_append_left, List.getElem?_append_right, List.set_append_left, List.set_append_right, List.getElem?_set_self, List.getElem?_set_ne, a1, a1', a2, a2', g1, b_byteful, g2, b_byteful, g3, b_byteful, g4, b_numeral, s1.1, s1.2.1, s1.2.2, s2.1, s2.2.1, s2.2.2]
  cases g5 : numeral l.ep
  · simp [sf8, evB, recheck, wantsOp, AV.same, sames, eqCells, eqLeaf, toL_some, asc, fzero, fnone, List.map_cons, List.map_nil, resVals, resVal, resOf, partV, fillA, putCells, fillEls, strBin, minV, optNat, appendEls, elsOf, sliceSlV, sliceStrV, List.replicate, List.getElem?_append_left, List.getElem?_append_right, List.set_append_left, List.set_append_right, List.getElem?_set_self, List.getElem?_set_ne, a1, a1', a2, a2', g1, b_byteful, g2, b_byteful, g3, b_byteful, g4, b_numeral, g5, b_numeral, s1.1, s1.2.1, s1.2.2, s2.1, s2.2.1, s2.2.2]
  cases g6 : numeral l.n
  · simp [sf8, evB, recheck, wantsOp, AV.same, sames, eqCells, eqLeaf, toL_some, asc, fzero, fnone, List.map_cons, List.map_nil, resVals, resVal, resOf, partV, fillA, putCells, fillEls, strBin, minV, optNat, appendEls, elsOf, sliceSlV, sliceStrV, List.replicate, List.getElem?_append_left, List.getElem?_append_right, List.set_append_left, List.set_append_right, List.getElem?_set_self, List.getElem?_set_ne, a1, a1', a2, a2', g1, b_byteful, g2, b_byteful, g3, b_byteful, g4, b_numeral, g5, b_numeral, g6, b_numeral, s1.1, s1.2.1, s1.2.2, s2.1, s2.2.1, s2.2.2]
  cases q5
  · simp [sf8, evB, recheck, wantsOp, AV.same, sames, eqCells, eqLeaf, toL_some, asc, fzero, fnone, List.map_cons, List.map_nil, resVals, resVal, resOf, partV, fillA, putCells, fillEls, strBin, minV, optNat, appendEls, elsOf, sliceSlV, sliceStrV, List.replicate, List.getElem?_append_left, List.getElem?_append_right, List.set_append_left, List.set_append_right, List.getElem?_set_self, List.getElem?_set_ne, a1, a1', a2, a2', g1, b_byteful, g2, b_byteful, g3, b_byteful, g4, b_numeral, g5, b_numeral, g6, b_numeral, e1, s1.1, s1.2.1, s1.2.2, s2.1, s2.2.1, s2.2.2]
  cases g8 : byteful l.op
  · simp [sf8, evB, recheck, wantsOp, AV.same, sames, eqCells, eqLeaf, toL_some, asc, fzero, fnone, List.map_cons, List.map_nil, resVals, resVal, resOf, partV, fillA, putCells, fillEls, strBin, minV, optNat, appendEls, elsOf, sliceSlV, sliceStrV, List.replicate, List.getElem?_append_left, List.getElem?_append_right, List.set_append_left, List.set_append_right, List.getElem?_set_self, List.getElem?_set_ne, a1, a1', a2, a2', g1, b_byteful, g2, b_byteful, g3, b_byteful, g4, b_numeral, g5, b_numeral, g6, b_numeral, e1, g8, b_byteful, s1.1, s1.2.1, s1.2.2, s2.1, s2.2.1, s2.2.2]
  by_cases g9 : 255 < l.key.length
  · have g9' : (255 : Int) < l.key.length := by omega
    have g9'' : short l.key = false := by simp [short]; omega
    have g9''' : ¬ (l.key.length : Int) ≤ 255 := by omega
    simp [sf8, evB, recheck, wantsOp, AV.same, sames, eqCells, eqLeaf, toL_some, asc, fzero, fnone, List.map_cons, List.map_nil, resVals, resVal, resOf, partV, fillA, putCells, fillEls, strBin, minV, optNat, appendEls, elsOf, sliceSlV, sliceStrV, List.replicate, List.getElem?_append_left, List.getElem?_append_right, List.set_append_left, List.set_append_right, List.getElem?_set_self, List.getElem?_set_ne, a1, a1', a2, a2', g1, b_byteful, g2, b_byteful, g3, b_byteful, g4, b_numeral, g5, b_numeral, g6, b_numeral, e1, g8, b_byteful, g9, g9', g9'', g9''', s1.1, s1.2.1, s1.2.2, s2.1, s2.2.1, s2.2.2]
  have g9' : ¬ (255 : Int) < l.key.length := by omega
  have g9'' : short l.key = true := by simp [short]; omega
  have g9''' : (l.key.length : Int) ≤ 255 := by omega
  by_cases g10 : 255 < l.value.length
  · have g10' : (255 : Int) < l.value.length := by omega
    have g10'' : short l.value = false := by simp [short]; omega
    have g10''' : ¬ (l.value.length : Int) ≤ 255 := by omega
    simp [sf8, evB, recheck, wantsOp, AV.same, sames, eqCells, eqLeaf, toL_some, asc, fzero, fnone, List.map_cons, List.map_nil, resVals, resVal, resOf, partV, fillA, putCells, fillEls, strBin, minV, optNat, appendEls, elsOf, sliceSlV, sliceStrV, List.replicate, List.getElem?_append_left, List.getElem?_append_right, List.set_append_left, List.set_append_right, List.getElem?_set_self, List.getElem?_set_ne, a1, a1', a2, a2', g1, b_byteful, g2, b_byteful, g3, b_byteful, g4, b_numeral, g5, b_numeral, g6, b_numeral, e1, g8, b_byteful, g9, g9', g9'', g9''', g10, g10', g10'', g10''', s1.1, s1.2.1, s1.2.2, s2.1, s2.2.1, s2.2.2]
  have g10' : ¬ (255 : Int) < l.value.length := by omega
  have g10'' : short l.value = true := by simp [short]; omega
  have g10''' : (l.value.length : Int) ≤ 255 := by omega
  by_cases g11 : 255 < l.to2.length
  · have g11' : (255 : Int) < l.to2.length := by omega
    have g11'' : short l.to2 = false := by simp [short]; omega
    have g11''' : ¬ (l.to2.length : Int) ≤ 255 := by omega
    simp [sf8, evB, recheck, wantsOp, AV.same, sames, eqCells, eqLeaf, toL_some, asc, fzero, fnone, List.map_cons, List.map_nil, resVals, resVal, resOf, partV, fillA, putCells, fillEls, strBin, minV, optNat, appendEls, elsOf, sliceSlV, sliceStrV, List.replicate, List.getElem?_append_left, List.getElem?_append_right, List.set_append_left, List.set_append_right, List.getElem?_set_self, List.getElem?_set_ne, a1, a1', a2, a2', g1, b_byteful, g2, b_byteful, g3, b_byteful, g4, b_numeral, g5, b_numeral, g6, b_numeral, e1, g8, b_byteful, g9, g9', g9'', g9''', g10, g10', g10'', g10''', g11, g11', g11'', g11''', s1.1, s1.2.1, s1.2.2, s2.1, s2.2.1, s2.2.2]
  have g11' : ¬ (255 : Int) < l.to2.length := by omega
  have g11'' : short l.to2 = true := by simp [short]; omega
  have g11''' : (l.to2.length : Int) ≤ 255 := by omega
  cases g12 : numeral l.most
  · simp [sf8, evB, recheck, wantsOp, AV.same, sames, eqCells, eqLeaf, toL_some, asc, fzero, fnone, List.map_cons, List.map_nil, resVals, resVal, resOf, partV, fillA, putCells, fillEls, strBin, minV, optNat, appendEls, elsOf, sliceSlV, sliceStrV, List.replicate, List.getElem?_append_left, List.getElem?_append_right, List.set_append_left, List.set_append_right, List.getElem?_set_self, List.getElem?_set_ne, a1, a1', a2, a2', g1, b_byteful, g2, b_byteful, g3, b_byteful, g4, b_numeral, g5, b_numeral, g6, b_numeral, e1, g8, b_byteful, g9, g9', g9'', g9''', g10, g10', g10'', g10''', g11, g11', g11'', g11''', g12, b_numeral, s1.1, s1.2.1, s1.2.2, s2.1, s2.2.1, s2.2.2]
  by_cases g13 : 0 ≤ l.errno
  rotate_left
  · simp [sf8, evB, recheck, wantsOp, AV.same, sames, eqCells, eqLeaf, toL_some, asc, fzero, fnone, List.map_cons, List.map_nil, resVals, resVal, resOf, partV, fillA, putCells, fillEls, strBin, minV, optNat, appendEls, elsOf, sliceSlV, sliceStrV, List.replicate, List.getElem?_append_left, List.getElem?_append_right, List.set_append_left, List.set_append_right, List.getElem?_set_self, List.getElem?_set_ne, a1, a1', a2, a2', g1, b_byteful, g2, b_byteful, g3, b_byteful, g4, b_numeral, g5, b_numeral, g6, b_numeral, e1, g8, b_byteful, g9, g9', g9'', g9''', g10, g10', g10'', g10''', g11, g11', g11'', g11''', g12, b_numeral, g13, s1.1, s1.2.1, s1.2.2, s2.1, s2.2.1, s2.2.2]
  by_cases g14 : l.errno ≤ 255
  rotate_left
  · simp [sf8, evB, recheck, wantsOp, AV.same, sames, eqCells, eqLeaf, toL_some, asc, fzero, fnone, List.map_cons, List.map_nil, resVals, resVal, resOf, partV, fillA, putCells, fillEls, strBin, minV, optNat, appendEls, elsOf, sliceSlV, sliceStrV, List.replicate, List.getElem?_append_left, List.getElem?_append_right, List.set_append_left, List.set_append_right, List.getElem?_set_self, List.getElem?_set_ne, a1, a1', a2, a2', g1, b_byteful, g2, b_byteful, g3, b_byteful, g4, b_numeral, g5, b_numeral, g6, b_numeral, e1, g8, b_byteful, g9, g9', g9'', g9''', g10, g10', g10'', g10''', g11, g11', g11'', g11''', g12, b_numeral, g13, g14, s1.1, s1.2.1, s1.2.2, s2.1, s2.2.1, s2.2.2]
  by_cases g15 : 255 < l.tv.length
  · have g15' : (255 : Int) < l.tv.length := by omega
    have g15'' : short l.tv = false := by simp [short]; omega
    have g15''' : ¬ (l.tv.length : Int) ≤ 255 := by omega
    simp [sf8, evB, recheck, wantsOp, AV.same, sames, eqCells, eqLeaf, toL_some, asc, fzero, fnone, List.map_cons, List.map_nil, resVals, resVal, resOf, partV, fillA, putCells, fillEls, strBin, minV, optNat, appendEls, elsOf, sliceSlV, sliceStrV, List.replicate, List.getElem?_append_left, List.getElem?_append_right, List.set_append_left, List.set_append_right, List.getElem?_set_self, List.getElem?_set_ne, a1, a1', a2, a2', g1, b_byteful, g2, b_byteful, g3, b_byteful, g4, b_numeral, g5, b_numeral, g6, b_numeral, e1, g8, b_byteful, g9, g9', g9'', g9''', g10, g10', g10'', g10''', g11, g11', g11'', g11''', g12, b_numeral, g13, g14, g15, g15', g15'', g15''', s1.1, s1.2.1, s1.2.2, s2.1, s2.2.1, s2.2.2]
  have g15' : ¬ (255 : Int) < l.tv.length := by omega
  have g15'' : short l.tv = true := by simp [short]; omega
  have g15''' : (l.tv.length : Int) ≤ 255 := by omega
  by_cases g16 : 255 < l.next.length
  · have g16' : (255 : Int) < l.next.length := by omega
    have g16'' : short l.next = false := by simp [short]; omega
    have g16''' : ¬ (l.next.length : Int) ≤ 255 := by omega
    simp [sf8, evB, recheck, wantsOp, AV.same, sames, eqCells, eqLeaf, toL_some, asc, fzero, fnone, List.map_cons, List.map_nil, resVals, resVal, resOf, partV, fillA, putCells, fillEls, strBin, minV, optNat, appendEls, elsOf, sliceSlV, sliceStrV, List.replicate, List.getElem?_append_left, List.getElem?_append_right, List.set_append_left, List.set_append_right, List.getElem?_set_self, List.getElem?_set_ne, a1, a1', a2, a2', g1, b_byteful, g2, b_byteful, g3, b_byteful, g4, b_numeral, g5, b_numeral, g6, b_numeral, e1, g8, b_byteful, g9, g9', g9'', g9''', g10, g10', g10'', g10''', g11, g11', g11'', g11''', g12, b_numeral, g13, g14, g15, g15', g15'', g15''', g16, g16', g16'', g16''', s1.1, s1.2.1, s1.2.2, s2.1, s2.2.1, s2.2.2]
  have g16' : ¬ (255 : Int) < l.next.length := by omega
  have g16'' : short l.next = true := by simp [short]; omega
  have g16''' : (l.next.length : Int) ≤ 255 := by omega
  cases q6
  · simp [sf8, evB, recheck, wantsOp, AV.same, sames, eqCells, eqLeaf, toL_some, asc, fzero, fnone, List.map_cons, List.map_nil, resVals, resVal, resOf, partV, fillA, putCells, fillEls, strBin, minV, optNat, appendEls, elsOf, sliceSlV, sliceStrV, List.replicate, List.getElem?_append_left, List.getElem?_append_right, List.set_append_left, List.set_append_right, List.getElem?_set_self, List.getElem?_set_ne, a1, a1', a2, a2', g1, b_byteful, g2, b_byteful, g3, b_byteful, g4, b_numeral, g5, b_numeral, g6, b_numeral, e1, g8, b_byteful, g9, g9', g9'', g9''', g10, g10', g10'', g10''', g11, g11', g11'', g11''', g12, b_numeral, g13, g14, g15, g15', g15'', g15''', g16, g16', g16'', g16''', e2, s1.1, s1.2.1, s1.2.2, s2.1, s2.2.1, s2.2.2]
  cases g18 : byteful l.tnode
  · simp [sf8, evB, recheck, wantsOp, AV.same, sames, eqCells, eqLeaf, toL_some, asc, fzero, fnone, List.map_cons, List.map_nil, resVals, resVal, resOf, partV, fillA, putCells, fillEls, strBin, minV, optNat, appendEls, elsOf, sliceSlV, sliceStrV, List.replicate, List.getElem?_append_left, List.getElem?_append_right, List.set_append_left, List.set_append_right, List.getElem?_set_self, List.getElem?_set_ne, a1, a1', a2, a2', g1, b_byteful, g2, b_byteful, g3, b_byteful, g4, b_numeral, g5, b_numeral, g6, b_numeral, e1, g8, b_byteful, g9, g9', g9'', g9''', g10, g10', g10'', g10''', g11, g11', g11'', g11''', g12, b_numeral, g13, g14, g15, g15', g15'', g15''', g16, g16', g16'', g16''', e2, g18, b_byteful, s1.1, s1.2.1, s1.2.2, s2.1, s2.2.1, s2.2.2]
  simp [sf8, evB, recheck, wantsOp, AV.same, sames, eqCells, eqLeaf, toL_some, asc, fzero, fnone, List.map_cons, List.map_nil, resVals, resVal, resOf, partV, fillA, putCells, fillEls, strBin, minV, optNat, appendEls, elsOf, sliceSlV, sliceStrV, List.replicate, List.getElem?_append_left, List.getElem?_append_right, List.set_append_left, List.set_append_right, List.getElem?_set_self, List.getElem?_set_ne, a1, a1', a2, a2', g1, b_byteful, g2, b_byteful, g3, b_byteful, g4, b_numeral, g5, b_numeral, g6, b_numeral, e1, g8, b_byteful, g9, g9', g9'', g9''', g10, g10', g10'', g10''', g11, g11', g11'', g11''', g12, b_numeral, g13, g14, g15, g15', g15'', g15''', g16, g16', g16'', g16''', e2, g18, b_byteful, s1.1, s1.2.1, s1.2.2, s2.1, s2.2.1, s2.2.2]
end Go.Proofs.YtgnenipkebelfaaGreatDoor.Lt
