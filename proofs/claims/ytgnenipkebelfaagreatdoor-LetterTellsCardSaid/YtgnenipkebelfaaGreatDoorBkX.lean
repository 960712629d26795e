/- Several texts in one. -/
import Derived.Test.YtgnenipkebelfaaGreatDoorBkTI
/- A book of lists: nothing kept of the other kinds; are the lists apart. (written by genbk.py) -/
set_option maxRecDepth 100000
set_option linter.unusedVariables false
set_option linter.unusedSimpArgs false
namespace Go.Proofs.YtgnenipkebelfaaGreatDoor.Bk
open Go Go.Eng F BkI
section
variable {k : H} {g : Nat} {pi wi : AV}
theorem z44 (hg : k[g]? = some (bookB pi wi .nilslice .nilslice)) : call Lz.fs3 Lz.ex3 44 [.ptr g 0 0] k = some (.bool true, k) := by
  unfold bookB at hg
  rw [call_eq Lz.fs3 Lz.ex3 (f := 44) (sf := sf44) rfl]
  simp [sf44, itw_eq, Lt.evB, recheck, wantsOp, AV.same, sames, eqCells, eqLeaf, toL_some, asc, fzero, fnone, List.map_cons, List.map_nil, resVals, resVal, resOf, partV, fillA, putCells, fillEls, strBin, minV, optNat, appendEls, elsOf, sliceSlV, sliceStrV, List.replicate, List.getElem?_append_left, List.getElem?_append_right, List.set_append_left, List.set_append_right, List.getElem?_set_self, List.getElem?_set_ne, hg, get_app hg, set_app hg, get_set_same hg, get_set_app hg, set_set_app hg, len_beq hg, beq_len hg]
theorem z45 (hg : k[g]? = some (bookB pi wi .nilslice .nilslice)) : call Lz.fs3 Lz.ex3 45 [.ptr g 0 0] k = some (.bool true, k) := by
  unfold bookB at hg
  rw [call_eq Lz.fs3 Lz.ex3 (f := 45) (sf := sf45) rfl]
  simp [sf45, itw_eq, Lt.evB, recheck, wantsOp, AV.same, sames, eqCells, eqLeaf, toL_some, asc, fzero, fnone, List.map_cons, List.map_nil, resVals, resVal, resOf, partV, fillA, putCells, fillEls, strBin, minV, optNat, appendEls, elsOf, sliceSlV, sliceStrV, List.replicate, List.getElem?_append_left, List.getElem?_append_right, List.set_append_left, List.set_append_right, List.getElem?_set_self, List.getElem?_set_ne, hg, get_app hg, set_app hg, get_set_same hg, get_set_app hg, set_set_app hg, len_beq hg, beq_len hg]
theorem z46 (hg : k[g]? = some (bookB pi wi .nilslice .nilslice)) : call Lz.fs3 Lz.ex3 46 [.ptr g 0 0] k = some (.bool true, k) := by
  unfold bookB at hg
  rw [call_eq Lz.fs3 Lz.ex3 (f := 46) (sf := sf46) rfl]
  simp [sf46, itw_eq, Lt.evB, recheck, wantsOp, AV.same, sames, eqCells, eqLeaf, toL_some, asc, fzero, fnone, List.map_cons, List.map_nil, resVals, resVal, resOf, partV, fillA, putCells, fillEls, strBin, minV, optNat, appendEls, elsOf, sliceSlV, sliceStrV, List.replicate, List.getElem?_append_left, List.getElem?_append_right, List.set_append_left, List.set_append_right, List.getElem?_set_self, List.getElem?_set_ne, hg, get_app hg, set_app hg, get_set_same hg, get_set_app hg, set_set_app hg, len_beq hg, beq_len hg]
theorem z48 (hg : k[g]? = some (bookB pi wi .nilslice .nilslice)) : call Lz.fs3 Lz.ex3 48 [.ptr g 0 0] k = some (.bool true, k) := by
  unfold bookB at hg
  rw [call_eq Lz.fs3 Lz.ex3 (f := 48) (sf := sf48) rfl]
  simp [sf48, itw_eq, Lt.evB, recheck, wantsOp, AV.same, sames, eqCells, eqLeaf, toL_some, asc, fzero, fnone, List.map_cons, List.map_nil, resVals, resVal, resOf, partV, fillA, putCells, fillEls, strBin, minV, optNat, appendEls, elsOf, sliceSlV, sliceStrV, List.replicate, List.getElem?_append_left, List.getElem?_append_right, List.set_append_left, List.set_append_right, List.getElem?_set_self, List.getElem?_set_ne, hg, get_app hg, set_app hg, get_set_same hg, get_set_app hg, set_set_app hg, len_beq hg, beq_len hg]
theorem z49 (hg : k[g]? = some (bookB pi wi .nilslice .nilslice)) : call Lz.fs3 Lz.ex3 49 [.ptr g 0 0] k = some (.bool true, k) := by
  unfold bookB at hg
  rw [call_eq Lz.fs3 Lz.ex3 (f := 49) (sf := sf49) rfl]
  simp [sf49, itw_eq, Lt.evB, recheck, wantsOp, AV.same, sames, eqCells, eqLeaf, toL_some, asc, fzero, fnone, List.map_cons, List.map_nil, resVals, resVal, resOf, partV, fillA, putCells, fillEls, strBin, minV, optNat, appendEls, elsOf, sliceSlV, sliceStrV, List.replicate, List.getElem?_append_left, List.getElem?_append_right, List.set_append_left, List.set_append_right, List.getElem?_set_self, List.getElem?_set_ne, hg, get_app hg, set_app hg, get_set_same hg, get_set_app hg, set_set_app hg, len_beq hg, beq_len hg]
theorem z50 (hg : k[g]? = some (bookB pi wi .nilslice .nilslice)) : call Lz.fs3 Lz.ex3 50 [.ptr g 0 0] k = some (.bool true, k) := by
  unfold bookB at hg
  rw [call_eq Lz.fs3 Lz.ex3 (f := 50) (sf := sf50) rfl]
  simp [sf50, itw_eq, Lt.evB, recheck, wantsOp, AV.same, sames, eqCells, eqLeaf, toL_some, asc, fzero, fnone, List.map_cons, List.map_nil, resVals, resVal, resOf, partV, fillA, putCells, fillEls, strBin, minV, optNat, appendEls, elsOf, sliceSlV, sliceStrV, List.replicate, List.getElem?_append_left, List.getElem?_append_right, List.set_append_left, List.set_append_right, List.getElem?_set_self, List.getElem?_set_ne, hg, get_app hg, set_app hg, get_set_same hg, get_set_app hg, set_set_app hg, len_beq hg, beq_len hg]
theorem z51 (hg : k[g]? = some (bookB pi wi .nilslice .nilslice)) : call Lz.fs3 Lz.ex3 51 [.ptr g 0 0] k = some (.tuple [], k) := by
  unfold bookB at hg
  rw [call_eq Lz.fs3 Lz.ex3 (f := 51) (sf := sf51) rfl]
  simp [sf51, itw_eq, Lt.evB, recheck, wantsOp, AV.same, sames, eqCells, eqLeaf, toL_some, asc, fzero, fnone, List.map_cons, List.map_nil, resVals, resVal, resOf, partV, fillA, putCells, fillEls, strBin, minV, optNat, appendEls, elsOf, sliceSlV, sliceStrV, List.replicate, List.getElem?_append_left, List.getElem?_append_right, List.set_append_left, List.set_append_right, List.getElem?_set_self, List.getElem?_set_ne, hg, get_app hg, set_app hg, get_set_same hg, get_set_app hg, set_set_app hg, len_beq hg, beq_len hg]
theorem z52 (hg : k[g]? = some (bookB pi wi .nilslice .nilslice)) : call Lz.fs3 Lz.ex3 52 [.ptr g 0 0] k = some (.tuple [], k) := by
  unfold bookB at hg
  rw [call_eq Lz.fs3 Lz.ex3 (f := 52) (sf := sf52) rfl]
  simp [sf52, itw_eq, Lt.evB, recheck, wantsOp, AV.same, sames, eqCells, eqLeaf, toL_some, asc, fzero, fnone, List.map_cons, List.map_nil, resVals, resVal, resOf, partV, fillA, putCells, fillEls, strBin, minV, optNat, appendEls, elsOf, sliceSlV, sliceStrV, List.replicate, List.getElem?_append_left, List.getElem?_append_right, List.set_append_left, List.set_append_right, List.getElem?_set_self, List.getElem?_set_ne, hg, get_app hg, set_app hg, get_set_same hg, get_set_app hg, set_set_app hg, len_beq hg, beq_len hg]
theorem z53 (hg : k[g]? = some (bookB pi wi .nilslice .nilslice)) : call Lz.fs3 Lz.ex3 53 [.ptr g 0 0] k = some (.tuple [], k) := by
  unfold bookB at hg
  rw [call_eq Lz.fs3 Lz.ex3 (f := 53) (sf := sf53) rfl]
  simp [sf53, itw_eq, Lt.evB, recheck, wantsOp, AV.same, sames, eqCells, eqLeaf, toL_some, asc, fzero, fnone, List.map_cons, List.map_nil, resVals, resVal, resOf, partV, fillA, putCells, fillEls, strBin, minV, optNat, appendEls, elsOf, sliceSlV, sliceStrV, List.replicate, List.getElem?_append_left, List.getElem?_append_right, List.set_append_left, List.set_append_right, List.getElem?_set_self, List.getElem?_set_ne, hg, get_app hg, set_app hg, get_set_same hg, get_set_app hg, set_set_app hg, len_beq hg, beq_len hg]
theorem z54 (hg : k[g]? = some (bookB pi wi .nilslice .nilslice)) : call Lz.fs3 Lz.ex3 54 [.ptr g 0 0] k = some (.tuple [], k) := by
  unfold bookB at hg
  rw [call_eq Lz.fs3 Lz.ex3 (f := 54) (sf := sf54) rfl]
  simp [sf54, itw_eq, Lt.evB, recheck, wantsOp, AV.same, sames, eqCells, eqLeaf, toL_some, asc, fzero, fnone, List.map_cons, List.map_nil, resVals, resVal, resOf, partV, fillA, putCells, fillEls, strBin, minV, optNat, appendEls, elsOf, sliceSlV, sliceStrV, List.replicate, List.getElem?_append_left, List.getElem?_append_right, List.set_append_left, List.set_append_right, List.getElem?_set_self, List.getElem?_set_ne, hg, get_app hg, set_app hg, get_set_same hg, get_set_app hg, set_set_app hg, len_beq hg, beq_len hg]
theorem z55 (hg : k[g]? = some (bookB pi wi .nilslice .nilslice)) : call Lz.fs3 Lz.ex3 55 [.ptr g 0 0] k = some (.tuple [], k) := by
  unfold bookB at hg
  rw [call_eq Lz.fs3 Lz.ex3 (f := 55) (sf := sf55) rfl]
  simp [sf55, itw_eq, Lt.evB, recheck, wantsOp, AV.same, sames, eqCells, eqLeaf, toL_some, asc, fzero, fnone, List.map_cons, List.map_nil, resVals, resVal, resOf, partV, fillA, putCells, fillEls, strBin, minV, optNat, appendEls, elsOf, sliceSlV, sliceStrV, List.replicate, List.getElem?_append_left, List.getElem?_append_right, List.set_append_left, List.set_append_right, List.getElem?_set_self, List.getElem?_set_ne, hg, get_app hg, set_app hg, get_set_same hg, get_set_app hg, set_set_app hg, len_beq hg, beq_len hg]
theorem z57 (hg : k[g]? = some (bookB pi wi .nilslice .nilslice)) : call Lz.fs3 Lz.ex3 57 [.ptr g 0 0] k = some (.tuple [], k) := by
  unfold bookB at hg
  rw [call_eq Lz.fs3 Lz.ex3 (f := 57) (sf := sf57) rfl]
  simp [sf57, itw_eq, Lt.evB, recheck, wantsOp, AV.same, sames, eqCells, eqLeaf, toL_some, asc, fzero, fnone, List.map_cons, List.map_nil, resVals, resVal, resOf, partV, fillA, putCells, fillEls, strBin, minV, optNat, appendEls, elsOf, sliceSlV, sliceStrV, List.replicate, List.getElem?_append_left, List.getElem?_append_right, List.set_append_left, List.set_append_right, List.getElem?_set_self, List.getElem?_set_ne, hg, get_app hg, set_app hg, get_set_same hg, get_set_app hg, set_set_app hg, len_beq hg, beq_len hg]
theorem z58 (hg : k[g]? = some (bookB pi wi .nilslice .nilslice)) : call Lz.fs3 Lz.ex3 58 [.ptr g 0 0] k = some (.nilslice, k) := by
  unfold bookB at hg
  rw [call_eq Lz.fs3 Lz.ex3 (f := 58) (sf := sf58) rfl]
  simp [sf58, itw_eq, Lt.evB, recheck, wantsOp, AV.same, sames, eqCells, eqLeaf, toL_some, asc, fzero, fnone, List.map_cons, List.map_nil, resVals, resVal, resOf, partV, fillA, putCells, fillEls, strBin, minV, optNat, appendEls, elsOf, sliceSlV, sliceStrV, List.replicate, List.getElem?_append_left, List.getElem?_append_right, List.set_append_left, List.set_append_right, List.getElem?_set_self, List.getElem?_set_ne, hg, get_app hg, set_app hg, get_set_same hg, get_set_app hg, set_set_app hg, len_beq hg, beq_len hg]
theorem z59 (hg : k[g]? = some (bookB pi wi .nilslice .nilslice)) : call Lz.fs3 Lz.ex3 59 [.ptr g 0 0] k = some (.nilslice, k) := by
  unfold bookB at hg
  rw [call_eq Lz.fs3 Lz.ex3 (f := 59) (sf := sf59) rfl]
  simp [sf59, itw_eq, Lt.evB, recheck, wantsOp, AV.same, sames, eqCells, eqLeaf, toL_some, asc, fzero, fnone, List.map_cons, List.map_nil, resVals, resVal, resOf, partV, fillA, putCells, fillEls, strBin, minV, optNat, appendEls, elsOf, sliceSlV, sliceStrV, List.replicate, List.getElem?_append_left, List.getElem?_append_right, List.set_append_left, List.set_append_right, List.getElem?_set_self, List.getElem?_set_ne, hg, get_app hg, set_app hg, get_set_same hg, get_set_app hg, set_set_app hg, len_beq hg, beq_len hg]
theorem z60 (hg : k[g]? = some (bookB pi wi .nilslice .nilslice)) : call Lz.fs3 Lz.ex3 60 [.ptr g 0 0] k = some (.nilslice, k) := by
  unfold bookB at hg
  rw [call_eq Lz.fs3 Lz.ex3 (f := 60) (sf := sf60) rfl]
  simp [sf60, itw_eq, Lt.evB, recheck, wantsOp, AV.same, sames, eqCells, eqLeaf, toL_some, asc, fzero, fnone, List.map_cons, List.map_nil, resVals, resVal, resOf, partV, fillA, putCells, fillEls, strBin, minV, optNat, appendEls, elsOf, sliceSlV, sliceStrV, List.replicate, List.getElem?_append_left, List.getElem?_append_right, List.set_append_left, List.set_append_right, List.getElem?_set_self, List.getElem?_set_ne, hg, get_app hg, set_app hg, get_set_same hg, get_set_app hg, set_set_app hg, len_beq hg, beq_len hg]
theorem z62 (hg : k[g]? = some (bookB pi wi .nilslice .nilslice)) : call Lz.fs3 Lz.ex3 62 [.ptr g 0 0] k = some (.nilslice, k) := by
  unfold bookB at hg
  rw [call_eq Lz.fs3 Lz.ex3 (f := 62) (sf := sf62) rfl]
  simp [sf62, itw_eq, Lt.evB, recheck, wantsOp, AV.same, sames, eqCells, eqLeaf, toL_some, asc, fzero, fnone, List.map_cons, List.map_nil, resVals, resVal, resOf, partV, fillA, putCells, fillEls, strBin, minV, optNat, appendEls, elsOf, sliceSlV, sliceStrV, List.replicate, List.getElem?_append_left, List.getElem?_append_right, List.set_append_left, List.set_append_right, List.getElem?_set_self, List.getElem?_set_ne, hg, get_app hg, set_app hg, get_set_same hg, get_set_app hg, set_set_app hg, len_beq hg, beq_len hg]
theorem z63 (hg : k[g]? = some (bookB pi wi .nilslice .nilslice)) : call Lz.fs3 Lz.ex3 63 [.ptr g 0 0] k = some (.nilslice, k) := by
  unfold bookB at hg
  rw [call_eq Lz.fs3 Lz.ex3 (f := 63) (sf := sf63) rfl]
  simp [sf63, itw_eq, Lt.evB, recheck, wantsOp, AV.same, sames, eqCells, eqLeaf, toL_some, asc, fzero, fnone, List.map_cons, List.map_nil, resVals, resVal, resOf, partV, fillA, putCells, fillEls, strBin, minV, optNat, appendEls, elsOf, sliceSlV, sliceStrV, List.replicate, List.getElem?_append_left, List.getElem?_append_right, List.set_append_left, List.set_append_right, List.getElem?_set_self, List.getElem?_set_ne, hg, get_app hg, set_app hg, get_set_same hg, get_set_app hg, set_set_app hg, len_beq hg, beq_len hg]
theorem z64 (hg : k[g]? = some (bookB pi wi .nilslice .nilslice)) : call Lz.fs3 Lz.ex3 64 [.ptr g 0 0] k = some (.nilslice, k) := by
  unfold bookB at hg
  rw [call_eq Lz.fs3 Lz.ex3 (f := 64) (sf := sf64) rfl]
  simp [sf64, itw_eq, Lt.evB, recheck, wantsOp, AV.same, sames, eqCells, eqLeaf, toL_some, asc, fzero, fnone, List.map_cons, List.map_nil, resVals, resVal, resOf, partV, fillA, putCells, fillEls, strBin, minV, optNat, appendEls, elsOf, sliceSlV, sliceStrV, List.replicate, List.getElem?_append_left, List.getElem?_append_right, List.set_append_left, List.set_append_right, List.getElem?_set_self, List.getElem?_set_ne, hg, get_app hg, set_app hg, get_set_same hg, get_set_app hg, set_set_app hg, len_beq hg, beq_len hg]
theorem z65 : call Lz.fs3 Lz.ex3 65 [.nilslice] k = some (.bool true, k) := by
  rw [call_eq Lz.fs3 Lz.ex3 (f := 65) (sf := sf65) rfl]
  simp [sf65, itw_eq, Lt.evB, recheck, wantsOp, AV.same, sames, eqCells, eqLeaf, toL_some, asc, fzero, fnone, List.map_cons, List.map_nil, resVals, resVal, resOf, partV, fillA, putCells, fillEls, strBin, minV, optNat, appendEls, elsOf, sliceSlV, sliceStrV, List.replicate, List.getElem?_append_left, List.getElem?_append_right, List.set_append_left, List.set_append_right, List.getElem?_set_self, List.getElem?_set_ne]
theorem z66 : call Lz.fs3 Lz.ex3 66 [.nilslice] k = some (.bool true, k) := by
  rw [call_eq Lz.fs3 Lz.ex3 (f := 66) (sf := sf66) rfl]
  simp [sf66, itw_eq, Lt.evB, recheck, wantsOp, AV.same, sames, eqCells, eqLeaf, toL_some, asc, fzero, fnone, List.map_cons, List.map_nil, resVals, resVal, resOf, partV, fillA, putCells, fillEls, strBin, minV, optNat, appendEls, elsOf, sliceSlV, sliceStrV, List.replicate, List.getElem?_append_left, List.getElem?_append_right, List.set_append_left, List.set_append_right, List.getElem?_set_self, List.getElem?_set_ne]
theorem z67 : call Lz.fs3 Lz.ex3 67 [.nilslice] k = some (.bool true, k) := by
  rw [call_eq Lz.fs3 Lz.ex3 (f := 67) (sf := sf67) rfl]
  simp [sf67, itw_eq, Lt.evB, recheck, wantsOp, AV.same, sames, eqCells, eqLeaf, toL_some, asc, fzero, fnone, List.map_cons, List.map_nil, resVals, resVal, resOf, partV, fillA, putCells, fillEls, strBin, minV, optNat, appendEls, elsOf, sliceSlV, sliceStrV, List.replicate, List.getElem?_append_left, List.getElem?_append_right, List.set_append_left, List.set_append_right, List.getElem?_set_self, List.getElem?_set_ne]
theorem z69 : call Lz.fs3 Lz.ex3 69 [.nilslice] k = some (.bool true, k) := by
  rw [call_eq Lz.fs3 Lz.ex3 (f := 69) (sf := sf69) rfl]
  simp [sf69, itw_eq, Lt.evB, recheck, wantsOp, AV.same, sames, eqCells, eqLeaf, toL_some, asc, fzero, fnone, List.map_cons, List.map_nil, resVals, resVal, resOf, partV, fillA, putCells, fillEls, strBin, minV, optNat, appendEls, elsOf, sliceSlV, sliceStrV, List.replicate, List.getElem?_append_left, List.getElem?_append_right, List.set_append_left, List.set_append_right, List.getElem?_set_self, List.getElem?_set_ne]
theorem z70 : call Lz.fs3 Lz.ex3 70 [.nilslice] k = some (.bool true, k) := by
  rw [call_eq Lz.fs3 Lz.ex3 (f := 70) (sf := sf70) rfl]
  simp [sf70, itw_eq, Lt.evB, recheck, wantsOp, AV.same, sames, eqCells, eqLeaf, toL_some, asc, fzero, fnone, List.map_cons, List.map_nil, resVals, resVal, resOf, partV, fillA, putCells, fillEls, strBin, minV, optNat, appendEls, elsOf, sliceSlV, sliceStrV, List.replicate, List.getElem?_append_left, List.getElem?_append_right, List.set_append_left, List.set_append_right, List.getElem?_set_self, List.getElem?_set_ne]
theorem z71 : call Lz.fs3 Lz.ex3 71 [.nilslice] k = some (.bool true, k) := by
  rw [call_eq Lz.fs3 Lz.ex3 (f := 71) (sf := sf71) rfl]
  simp [sf71, itw_eq, Lt.evB, recheck, wantsOp, AV.same, sames, eqCells, eqLeaf, toL_some, asc, fzero, fnone, List.map_cons, List.map_nil, resVals, resVal, resOf, partV, fillA, putCells, fillEls, strBin, minV, optNat, appendEls, elsOf, sliceSlV, sliceStrV, List.replicate, List.getElem?_append_left, List.getElem?_append_right, List.set_append_left, List.set_append_right, List.getElem?_set_self, List.getElem?_set_ne]
end
set_option maxHeartbeats 16000000 in
theorem apart_call {k : H} {g : Nat} {pi wi : AV} {vi ui : List AV} {Li Mi : Nat → List (List AV)} {Xi : Nat → List It} (hg : k[g]? = some (bookB pi wi .nilslice .nilslice))
    (hpi : RdS k 1 pi (vi.map fun u => [u])) (hwi : RdS k 1 wi (ui.map fun u => [u])) (hli : vi.length ≤ 250) (h2i : ui.length = vi.length)
    (hvi : ∀ i (h : i < vi.length), OwnE k 2 vi[i] (Li i) ∧ BkI.Reps k (Li i) (Xi i)) (hui : ∀ i (h : i < ui.length), RdS k 2 ui[i] (Mi i) ∧ BkI.Reps k (Mi i) (Xi i))
    (hsi : ∀ i, (Xi i).length ≤ 50000 ∧ (Li i).length ≤ 50000 ∧ ∀ e ∈ Li i, e.length = 2) (ai : Apt g pi vi) :
    Yld (call Lz.fs3 Lz.ex3 17 [.ptr g 0 0] k) fun r => r.1 = .bool true := by
  refine yld_shut fun Q hQ => ?_
  rw [call_eq Lz.fs3 Lz.ex3 (f := 17) (sf := sf17) rfl]
  obtain ⟨⟨_, kB⟩, eSL, _, hr, cB⟩ := BkI.still_call hg hpi hwi hli h2i (fun i h => ⟨(hvi i h).1.rds, (hvi i h).2⟩) hui (fun i => by have := (hsi i).1; omega)
  cases hr
  have hgB := cB.2 g _ (by simp) hg
  obtain ⟨⟨_, kC⟩, ePL, _, hr, hv1, cC⟩ := BkI.put_call hgB (hpi.keep cB (by simp)) hli (fun i h => (hvi i h).1.keep cB (by simp)) (fun i => ⟨(hsi i).2.2, by have := (hsi i).2.1; omega⟩) ai
  cases hr
  have hgC := cC.2 g _ ai.g_feet hgB
  have hpiC := (hpi.keep cB (by simp)).keep cC ai.p_feet
  obtain ⟨⟨_, kF⟩, eGL, gl, ugl, _, hr, hgl, hugll, hugl', hglf, hvF, cF⟩ := BkI.grow_call hgC hpiC hli hv1 (fun i => (hsi i).2.1) ai
  cases hr
  have hgF := cF.2 g _ ai.g_feet hgC
  obtain ⟨⟨_, kI⟩, eML, _, hr, cI⟩ := BkI.marked_call (N := fun i => (Li i).length + 72) hgl (by omega) (fun i => by have := (hsi i).2.1; show _ + 72 ≤ 100000; omega) (fun i h => (hugl' i h).1)
  cases hr
  have hgI := cI.2 g _ (by simp) hgF
  have hpiI := (hpiC.keep cF ai.p_feet).keep cI (by simp)
  obtain ⟨⟨_, kJ⟩, eML', _, hr, cJ⟩ := BkI.marked_call (N := fun i => (Li i).length) hpiI hli (fun i => by have := (hsi i).2.1; show _ ≤ 100000; omega) (fun i h => (hvF i h).keep cI (by simp))
  cases hr
  have hgJ := cJ.2 g _ (by simp) hgI
  have sl := hpi.cells
  have hq := hQ (.bool true, kJ) rfl
  have y44_hg := z44 hg
  have y44_hgB := z44 hgB
  have y45_hg := z45 hg
  have y45_hgB := z45 hgB
  have y46_hg := z46 hg
  have y46_hgB := z46 hgB
  have y48_hg := z48 hg
  have y48_hgB := z48 hgB
  have y49_hg := z49 hg
  have y49_hgB := z49 hgB
  have y50_hg := z50 hg
  have y50_hgB := z50 hgB
  have y51_hgB := z51 hgB
  have y51_hgC := z51 hgC
  have y52_hgB := z52 hgB
  have y52_hgC := z52 hgC
  have y53_hgB := z53 hgB
  have y53_hgC := z53 hgC
  have y54_hgB := z54 hgB
  have y54_hgC := z54 hgC
  have y55_hgB := z55 hgB
  have y55_hgC := z55 hgC
  have y57_hgB := z57 hgB
  have y57_hgC := z57 hgC
  have y58_hgC := z58 hgC
  have y58_hgF := z58 hgF
  have y59_hgC := z59 hgC
  have y59_hgF := z59 hgF
  have y60_hgC := z60 hgC
  have y60_hgF := z60 hgF
  have y62_hgC := z62 hgC
  have y62_hgF := z62 hgF
  have y63_hgC := z63 hgC
  have y63_hgF := z63 hgF
  have y64_hgC := z64 hgC
  have y64_hgF := z64 hgF
  unfold bookB at hg hgB hgC hgF hgI hgJ
  simp [sf17, Lt.evB, recheck, wantsOp, AV.same, sames, eqCells, eqLeaf, toL_some, asc, fzero, fnone, List.map_cons, List.map_nil, resVals, resVal, resOf, partV, fillA, putCells, fillEls, strBin, minV, optNat, appendEls, elsOf, sliceSlV, sliceStrV, List.replicate, List.getElem?_append_left, List.getElem?_append_right, List.set_append_left, List.set_append_right, List.getElem?_set_self, List.getElem?_set_ne, eSL, ePL, eGL, eML, eML', hg, get_app hg, set_app hg, get_set_same hg, get_set_app hg, set_set_app hg, len_beq hg, beq_len hg, hgB, get_app hgB, set_app hgB, get_set_same hgB, get_set_app hgB, set_set_app hgB, len_beq hgB, beq_len hgB, hgC, get_app hgC, set_app hgC, get_set_same hgC, get_set_app hgC, set_set_app hgC, len_beq hgC, beq_len hgC, hgF, get_app hgF, set_app hgF, get_set_same hgF, get_set_app hgF, set_set_app hgF, len_beq hgF, beq_len hgF, hgI, get_app hgI, set_app hgI, get_set_same hgI, get_set_app hgI, set_set_app hgI, len_beq hgI, beq_len hgI, hgJ, get_app hgJ, set_app hgJ, get_set_same hgJ, get_set_app hgJ, set_set_app hgJ, len_beq hgJ, beq_len hgJ, sl.1, sl.2.1, sl.2.2, y44_hg, y44_hgB, y45_hg, y45_hgB, y46_hg, y46_hgB, y48_hg, y48_hgB, y49_hg, y49_hgB, y50_hg, y50_hgB, y51_hgB, y51_hgC, y52_hgB, y52_hgC, y53_hgB, y53_hgC, y54_hgB, y54_hgC, y55_hgB, y55_hgC, y57_hgB, y57_hgC, y58_hgC, y58_hgF, y59_hgC, y59_hgF, y60_hgC, y60_hgF, y62_hgC, y62_hgF, y63_hgC, y63_hgF, y64_hgC, y64_hgF, z65, z66, z67, z69, z70, z71, hq]
end Go.Proofs.YtgnenipkebelfaaGreatDoor.Bk

/- A book of lists: one more list of items. (written by genbk.py) -/
set_option maxRecDepth 100000
set_option linter.unusedVariables false
set_option linter.unusedSimpArgs false
namespace Go.Proofs.YtgnenipkebelfaaGreatDoor.BkI
open Go Go.Eng F Bk

set_option maxHeartbeats 8000000 in
theorem add_core {k : H} {g : Nat} {pi wi pl wl v : AV} {vs ws : List AV} {L : List (List AV)} {X : List It} (hg : k[g]? = some (bookB pi wi pl wl)) (po : OwnE k 1 pi (vs.map fun u => [u])) (wo : OwnE k 1 wi (ws.map fun u => [u])) (hlen : vs.length < 250) (hlw : ws.length = vs.length)
    (ho : OwnE k 2 v L) (hL : Reps k L X) (hs : X.length ≤ 50000) (gp : g ∉ foot pi) (gw : g ∉ foot wi) (pw : ∀ c ∈ foot pi, c ∉ foot wi) (gv : g ∉ foot v) (vp : ∀ c ∈ foot v, c ∉ foot pi) (nes : ∀ e ∈ L, ∀ a ∈ e, ∀ c ∈ foot0 a, c ≠ g ∧ c ∉ foot pi)
    (so1 : pi.cells = some [pi] ∧ pi.scalar = true) (so2 : wi.cells = some [wi] ∧ wi.scalar = true) (so3 : pl.cells = some [pl] ∧ pl.scalar = true) (so4 : wl.cells = some [wl] ∧ wl.scalar = true) :
    Yld (call Lz.fs3 Lz.ex3 14 [.ptr g 0 0, v] k) fun r => ∃ pv' wv' w M k' n1 n2, r = (.tuple [], k') ∧ k'[g]? = some (bookB pv' wv' pl wl) ∧ OwnE k' 1 pv' ((vs ++ [v]).map fun u => [u]) ∧ OwnE k' 1 wv' ((ws ++ [w]).map fun u => [u]) ∧ OwnE k' 2 w M ∧ Reps k' M X ∧ Chg k k' (g :: (foot pi ++ foot wi)) ∧
      k.length ≤ n1 ∧ n1 ≤ n2 ∧ (∀ c ∈ foot pv', k.length ≤ c ∧ c < n1) ∧ (∀ c ∈ foot w, n1 ≤ c ∧ c < n2) ∧ (∀ e ∈ M, ∀ a ∈ e, ∀ c ∈ foot0 a, n1 ≤ c ∧ c < n2) ∧ (∀ c ∈ foot wv', n2 ≤ c) := by
  refine yld_shut fun Q hQ => ?_
  rw [call_eq Lz.fs3 Lz.ex3 (f := 14) (sf := sf14) rfl]
  have hgl := (List.getElem?_eq_some_iff.1 hg).1
  have lp := po.rds.len
  simp only [List.length_map] at lp
  have hd : decide ((vs.length : Int) < 250) = true := dec_true (by omega)
  have sv := ho.rds.cells
  have hgx := hg
  unfold bookB at hg
  obtain ⟨p2, k2, e9, o2, c2, f2⟩ := ownE_append (po.keep (Chg.app k [.row 1 [[v]] true true] []) (by simp)) (x := .slice k.length 1 0 1 1 true) (X := [[v]]) (.inr <| .inr ⟨k.length, 1, true, [[v]], true, true, rfl, by simp, rfl, by simp⟩) (by simp) (by simpa using sv.2.1) (by simp; omega)
  have cA : Chg k k2 (foot pi) := ((Chg.app k _ []).mono (by simp)).trans c2 (fun c hc => .inl hc)
  have hg2 := cA.2 g _ gp hg
  have kl2 := cA.1
  have s2 := o2.rds.cells
  have cB : Chg k2 (k2.set g (bookB p2 wi pl wl)) [g] := (Chg.refl _ _).set (.inl (by simp))
  have cAB : Chg k (k2.set g (bookB p2 wi pl wl)) (g :: foot pi) := (cA.mono (by intro c hc; simp [hc])).trans cB (fun c hc => by simp at hc; simp [hc])
  have hg3 : (k2.set g (bookB p2 wi pl wl))[g]? = some (bookB p2 wi pl wl) := get_set_same hg2
  have ho3 := ho.keep cAB (fun c hc hm => by
    simp only [List.mem_cons] at hm
    rcases hm with rfl | h
    · exact gv hc
    · exact vp c hc h)
  have hL3 := hL.keep cAB (fun e he a ha c hc hm => by
    have := nes e he a ha c hc
    simp only [List.mem_cons] at hm
    rcases hm with h | h
    · exact this.1 h
    · exact this.2 h)
  generalize hk3 : k2.set g (bookB p2 wi pl wl) = k3 at *
  unfold bookB at hg3
  have kl3 := cAB.1
  have kl23 : k2.length ≤ k3.length := by rw [← hk3]; simp
  obtain ⟨⟨w, k4⟩, e22, _, _, M, hr, ow, hM, c4, f4, f4n⟩ := copy_call (ho3.rds) hL3 (by omega)
  cases hr
  have hg4 := c4.2 g _ (by simp) hg3
  have sw := ow.rds.cells
  have hwo4 : OwnE (k4 ++ [.row 1 [[w]] true true]) 1 wi (ws.map fun u => [u]) := ((wo.keep cAB (fun c hc hm => by
    simp only [List.mem_cons] at hm
    rcases hm with rfl | h
    · exact gw hc
    · exact pw c h hc)).keep c4 (by simp)).keep (Chg.app k4 _ []) (by simp)
  obtain ⟨w2, k5, e10, o5, c5, f5⟩ := ownE_append hwo4 (x := .slice k4.length 1 0 1 1 true) (X := [[w]]) (.inr <| .inr ⟨k4.length, 1, true, [[w]], true, true, rfl, by simp, rfl, by simp⟩) (by simp) (by simpa using sw.2.1) (by simp; omega)
  have cC : Chg k3 k5 (foot wi) := ((c4.trans (Chg.app k4 _ []) (by simp)).mono (by simp)).trans c5 (fun c hc => .inl hc)
  have hg5 := cC.2 g _ gw hg3
  have kl5 := cC.1
  have kl34 := c4.1
  have s5 := o5.rds.cells
  have cD : Chg k5 (k5.set g (bookB p2 w2 pl wl)) [g] := (Chg.refl _ _).set (.inl (by simp))
  have cAll : Chg k (k5.set g (bookB p2 w2 pl wl)) (g :: (foot pi ++ foot wi)) := ((cAB.mono (by intro c hc; simp at hc ⊢; rcases hc with h | h <;> simp [h])).trans cC (fun c hc => .inl (by simp [hc]))).trans cD (fun c hc => by simp at hc; simp [hc])
  have p2a : ∀ c ∈ foot p2, k.length ≤ c ∧ c < k3.length := fun c hc => ⟨by have := f2 c hc; simp at this; omega, by have := o2.lt c hc; omega⟩
  have w2a : ∀ c ∈ foot w2, k4.length ≤ c := fun c hc => by have := f5 c hc; simp at this; omega
  have wa : ∀ c ∈ foot w, k3.length ≤ c ∧ c < k4.length := fun c hc => ⟨f4 c hc, ow.lt c hc⟩
  have na : ∀ e ∈ M, ∀ a ∈ e, ∀ c ∈ foot0 a, k3.length ≤ c ∧ c < k4.length := fun e he a ha c hc => ⟨(f4n e he a ha c hc).1, hM.lt0 e he a ha c hc⟩
  have wva := wo.lt
  have wvk : ∀ c ∈ foot wi, c < k.length := wo.lt
  have g2 : g ∉ foot p2 := fun h => by have := (p2a g h).1; omega
  have g3 : g ∉ foot w2 := fun h => by have := w2a g h; omega
  have g4 : g ∉ foot w := fun h => by have := (wa g h).1; omega
  have hp5 : OwnE (k5.set g (bookB p2 w2 pl wl)) 1 p2 ((vs ++ [v]).map fun u => [u]) := by
    have h1 := ((o2.keep cB (by intro c hc; simp; rintro rfl; exact g2 hc)).keep cC (fun c hc hm => by have := (p2a c hc).1; have := wvk c hm; omega)).keep cD (by intro c hc; simp; rintro rfl; exact g2 hc)
    simpa using h1
  have hw5 : OwnE (k5.set g (bookB p2 w2 pl wl)) 1 w2 ((ws ++ [w]).map fun u => [u]) := by
    have h1 := o5.keep cD (by intro c hc; simp; rintro rfl; exact g3 hc)
    simpa using h1
  have hnw : OwnE (k5.set g (bookB p2 w2 pl wl)) 2 w M := ((ow.keep (Chg.app k4 _ []) (by simp)).keep c5 (fun c hc hm => by have := (wa c hc).1; have := wvk c hm; omega)).keep cD (by intro c hc; simp; rintro rfl; exact g4 hc)
  have hnM : Reps (k5.set g (bookB p2 w2 pl wl)) M X := ((hM.keep (Chg.app k4 _ []) (by simp)).keep c5 (fun e he a ha c hc hm => by have := (na e he a ha c hc).1; have := wvk c hm; omega)).keep cD (by intro e he a ha c hc; simp; rintro rfl; have := (na e he a ha _ hc).1; omega)
  have hfin2 := hQ (.tuple [], k5.set g (bookB p2 w2 pl wl)) ⟨p2, w2, w, M, _, k3.length, k4.length, rfl, get_set_same hg5, hp5, hw5, hnw, hnM, cAll, kl3, kl34, p2a, wa, na, w2a⟩
  have swv := wo.rds.cells
  have spv := po.rds.cells
  unfold bookB at hfin2 hk3
  simp [sf14, Lt.evB, recheck, wantsOp, AV.same, sames, eqCells, eqLeaf, toL_some, asc, fzero, fnone, List.map_cons, List.map_nil, resVals, resVal, resOf, partV, fillA, putCells, fillEls, strBin, minV, optNat, appendEls, elsOf, sliceSlV, sliceStrV, List.replicate, List.getElem?_append_left, List.getElem?_append_right, List.set_append_left, List.set_append_right, List.getElem?_set_self, List.getElem?_set_ne, lp, hlen, hd, hg, get_app hg, set_app hg, get_set_same hg, get_set_app hg, set_set_app hg, len_beq hg, beq_len hg, hg2, get_app hg2, set_app hg2, get_set_same hg2, get_set_app hg2, set_set_app hg2, len_beq hg2, beq_len hg2, hk3, hg3, get_app hg3, set_app hg3, get_set_same hg3, get_set_app hg3, set_set_app hg3, len_beq hg3, beq_len hg3, hg4, get_app hg4, set_app hg4, get_set_same hg4, get_set_app hg4, set_set_app hg4, len_beq hg4, beq_len hg4, hg5, get_app hg5, set_app hg5, get_set_same hg5, get_set_app hg5, set_set_app hg5, len_beq hg5, beq_len hg5, e9, e22, e10, sv.1, sv.2.1, s2.1, s2.2.1, sw.1, sw.2.1, s5.1, s5.2.1, swv.1, swv.2.1, swv.2.2, spv.1, spv.2.1, spv.2.2, so1.1, so1.2, so2.1, so2.2, so3.1, so3.2, so4.1, so4.2, hfin2]
set_option maxHeartbeats 4000000 in
theorem add_full {k : H} {g : Nat} {pi wi pl wl v : AV} {vs : List AV} (hg : k[g]? = some (bookB pi wi pl wl)) (po : OwnE k 1 pi (vs.map fun u => [u])) (hlen : 250 ≤ vs.length) : call Lz.fs3 Lz.ex3 14 [.ptr g 0 0, v] k = some (.tuple [], k) := by
  rw [call_eq Lz.fs3 Lz.ex3 (f := 14) (sf := sf14) rfl]
  have lp := po.rds.len
  simp only [List.length_map] at lp
  have hd : decide ((vs.length : Int) < 250) = false := dec_false (by omega)
  have hd' : decide (vs.length < 250) = false := dec_false (by omega)
  have hd2 : ¬ vs.length < 250 := by omega
  unfold bookB at hg
  simp [sf14, Lt.evB, recheck, wantsOp, AV.same, sames, eqCells, eqLeaf, toL_some, asc, fzero, fnone, List.map_cons, List.map_nil, resVals, resVal, resOf, partV, fillA, putCells, fillEls, strBin, minV, optNat, appendEls, elsOf, sliceSlV, sliceStrV, List.replicate, List.getElem?_append_left, List.getElem?_append_right, List.set_append_left, List.set_append_right, List.getElem?_set_self, List.getElem?_set_ne, lp, hd, hd', hd2, hg, get_app hg, set_app hg, get_set_same hg, get_set_app hg, set_set_app hg, len_beq hg, beq_len hg]
end Go.Proofs.YtgnenipkebelfaaGreatDoor.BkI

/- A book of items alone: who holds which block; the book as it grows. -/
set_option maxRecDepth 100000
set_option linter.unusedVariables false
set_option linter.unusedSimpArgs false
namespace Go.Proofs.YtgnenipkebelfaaGreatDoor.Bk
open Go Go.Eng F

/-- From (k, tg) to (k', tg'): blocks of the tags T may be turned; new blocks are tagged. -/
structure Stp (T : Nat → Prop) (k k' : H) (tg tg' : Nat → Nat) : Prop where
  len : k.length ≤ k'.length
  old : ∀ c, c < k.length → tg' c = tg c
  keep : ∀ c x, k[c]? = some x → ¬ T (tg c) → k'[c]? = some x
theorem Stp.refl (T : Nat → Prop) (k : H) (tg : Nat → Nat) : Stp T k k tg tg := ⟨Nat.le_refl _, fun _ _ => rfl, fun _ _ h _ => h⟩
theorem Stp.trans {T : Nat → Prop} {k k' k'' : H} {tg tg' tg'' : Nat → Nat} (a : Stp T k k' tg tg') (b : Stp T k' k'' tg' tg'') : Stp T k k'' tg tg'' :=
  ⟨Nat.le_trans a.len b.len, fun c hc => (b.old c (Nat.lt_of_lt_of_le hc a.len)).trans (a.old c hc), fun c x hx hn => by
    have hc := (List.getElem?_eq_some_iff.1 hx).1
    exact b.keep c x (a.keep c x hx hn) (by rw [a.old c hc]; exact hn)⟩
theorem Stp.mono {T U : Nat → Prop} {k k' : H} {tg tg' : Nat → Nat} (a : Stp T k k' tg tg') (h : ∀ t, T t → U t) : Stp U k k' tg tg' := ⟨a.len, a.old, fun c x hx hn => a.keep c x hx (fun ht => hn (h _ ht))⟩
theorem Stp.of {T : Nat → Prop} {k k' : H} {tg tg' : Nat → Nat} {F : List Nat} (c : Chg k k' F) (h : ∀ z ∈ F, z < k.length → T (tg z)) (ho : ∀ z, z < k.length → tg' z = tg z) : Stp T k k' tg tg' :=
  ⟨c.1, ho, fun z x hx hn => c.2 z x (fun hm => hn (h z hm (List.getElem?_eq_some_iff.1 hx).1)) hx⟩
open Classical in
theorem Stp.chg {T : Nat → Prop} {k k' : H} {tg tg' : Nat → Nat} (s : Stp T k k' tg tg') : ∃ F : List Nat, Chg k k' F ∧ ∀ c, ¬ T (tg c) → c ∉ F := by
  refine ⟨(List.range k.length).filter (fun c => decide (T (tg c))), ⟨s.len, fun c x hn hx => s.keep c x hx (fun ht => hn ?_)⟩, fun c hc hm => ?_⟩
  · rw [List.mem_filter]
    exact ⟨List.mem_range.2 (List.getElem?_eq_some_iff.1 hx).1, decide_eq_true ht⟩
  · rw [List.mem_filter] at hm
    exact hc (of_decide_eq_true hm.2)
section
variable {T : Nat → Prop} {k k' : H} {tg tg' : Nat → Nat} {es : Nat} {v : AV} {L : List (List AV)}
theorem OwnE.stp (o : OwnE k es v L) (s : Stp T k k' tg tg') (h : ∀ c ∈ foot v, ¬ T (tg c)) : OwnE k' es v L := by
  obtain ⟨F, c, hF⟩ := s.chg
  exact o.keep c (fun z hz => hF z (h z hz))
theorem RdS.stp (o : RdS k es v L) (s : Stp T k k' tg tg') (h : ∀ c ∈ foot v, ¬ T (tg c)) : RdS k' es v L := by
  obtain ⟨F, c, hF⟩ := s.chg
  exact o.keep c (fun z hz => hF z (h z hz))
theorem _root_.Go.Proofs.YtgnenipkebelfaaGreatDoor.BkI.Reps.stp {X : List BkI.It} (o : BkI.Reps k L X) (s : Stp T k k' tg tg') (h : ∀ e ∈ L, ∀ a ∈ e, ∀ c ∈ foot0 a, ¬ T (tg c)) : BkI.Reps k' L X := by
  obtain ⟨F, c, hF⟩ := s.chg
  exact o.keep c (fun e he a ha z hz => hF z (h e he a ha z hz))
end
/-- Tags: 1 the book, 2 to 5 its lists of lists, 6 what nobody turns, 10 + 2 i and 11 + 2 i the lists. -/
structure BkAt (k : H) (tg : Nat → Nat) (g : Nat) (pi wi : AV) (vi ui : List AV) (Xi : Nat → List BkI.It) : Prop where
  row : k[g]? = some (bookB pi wi .nilslice .nilslice)
  tgg : tg g = 1
  pio : OwnE k 1 pi (vi.map fun u => [u])
  wio : OwnE k 1 wi (ui.map fun u => [u])
  tpi : ∀ c ∈ foot pi, tg c = 2
  twi : ∀ c ∈ foot wi, tg c = 3
  h2i : ui.length = vi.length
  lvi : vi.length ≤ 250
  hvi : ∀ i (h : i < vi.length), ∃ L, OwnE k 2 vi[i] L ∧ BkI.Reps k L (Xi i) ∧ (∀ c ∈ foot vi[i], tg c = 10 + 2 * i) ∧ ∀ e ∈ L, ∀ a ∈ e, ∀ c ∈ foot0 a, tg c = 6
  hui : ∀ i (h : i < ui.length), ∃ L, OwnE k 2 ui[i] L ∧ BkI.Reps k L (Xi i) ∧ (∀ c ∈ foot ui[i], tg c = 6) ∧ ∀ e ∈ L, ∀ a ∈ e, ∀ c ∈ foot0 a, tg c = 6
  sxi : ∀ i, (Xi i).length ≤ 50000 
/-- A book, with so many lists. -/
def Book (k : H) (tg : Nat → Nat) (g ni : Nat) : Prop := ∃ pi wi vi ui Xi, BkAt k tg g pi wi vi ui Xi ∧ vi.length = ni
/-- The tags of a book. -/
def BkTag (t : Nat) : Prop := (1 ≤ t ∧ t ≤ 6) ∨ 10 ≤ t
theorem BkAt.stp {T : Nat → Prop} {k k' : H} {tg tg' : Nat → Nat} {g : Nat} {pi wi : AV} {vi ui : List AV} {Xi : Nat → List BkI.It} (b : BkAt k tg g pi wi vi ui Xi) (s : Stp T k k' tg tg') (hT : ∀ t, T t → ¬ BkTag t) : BkAt k' tg' g pi wi vi ui Xi := by
  have no : ∀ t, BkTag t → ¬ T t := fun t h ht => hT t ht h
  have n1 := no 1 (.inl (by omega))
  have n4 := no 2 (.inl (by omega))
  have n5 := no 3 (.inl (by omega))
  have n6 := no 6 (.inl (by omega))
  have nh' : ∀ i, ¬ T (10 + 2 * i) := fun i => no _ (.inr (by omega))
  have hgl := (List.getElem?_eq_some_iff.1 b.row).1
  have old := s.old
  have olt : ∀ {es : Nat} {v : AV} {L : List (List AV)} {t : Nat}, OwnE k es v L → (∀ c ∈ foot v, tg c = t) → ∀ c ∈ foot v, tg' c = t := fun o h c hc => (old c (o.lt c hc)).trans (h c hc)
  refine ⟨s.keep g _ b.row (by rw [b.tgg]; exact n1), by rw [old g hgl]; exact b.tgg, b.pio.stp s (fun c hc => by rw [b.tpi c hc]; exact n4), b.wio.stp s (fun c hc => by rw [b.twi c hc]; exact n5),
    olt b.pio b.tpi, olt b.wio b.twi, b.h2i, b.lvi, fun i h => ?_, fun i h => ?_, b.sxi⟩
  · obtain ⟨L, o, r, t, u⟩ := b.hvi i h
    refine ⟨L, o.stp s (fun c hc => by rw [t c hc]; exact nh' i), r.stp s (fun e he a ha c hc => by rw [u e he a ha c hc]; exact n6), olt o t, fun e he a ha c hc => ?_⟩
    rw [old c (r.lt0 e he a ha c hc)]; exact u e he a ha c hc
  · obtain ⟨L, o, r, t, u⟩ := b.hui i h
    refine ⟨L, o.stp s (fun c hc => by rw [t c hc]; exact n6), r.stp s (fun e he a ha c hc => by rw [u e he a ha c hc]; exact n6), olt o t, fun e he a ha c hc => ?_⟩
    rw [old c (r.lt0 e he a ha c hc)]; exact u e he a ha c hc
set_option maxHeartbeats 4000000 in
theorem Book.addI {k : H} {tg : Nat → Nat} {g ni : Nat} (bk : Book k tg g ni) {v : AV} {L : List (List AV)} {X : List BkI.It} (ho : OwnE k 2 v L) (hL : BkI.Reps k L X) (hs : X.length ≤ 50000) (ht : ∀ c ∈ foot v, tg c = 10 + 2 * ni) (hn : ∀ e ∈ L, ∀ a ∈ e, ∀ c ∈ foot0 a, tg c = 6) :
    Yld (call Lz.fs3 Lz.ex3 14 [.ptr g 0 0, v] k) fun r => ∃ k' tg' ni', r = (.tuple [], k') ∧ Book k' tg' g ni' ∧ Stp (fun t => t = 1 ∨ t = 2 ∨ t = 3) k k' tg tg' := by
  obtain ⟨pi, wi, vi, ui, Xi, b, rfl⟩ := bk
  by_cases hlen : vi.length < 250
  · have hgl := (List.getElem?_eq_some_iff.1 b.row).1
    have fgp : ∀ {w : AV} {t : Nat}, (∀ c ∈ foot w, tg c = t) → t ≠ 1 → g ∉ foot w := fun h h1 hm => h1 ((h g hm).symm.trans b.tgg)
    have apt : ∀ {u w : AV} {t t' : Nat}, (∀ c ∈ foot u, tg c = t) → (∀ c ∈ foot w, tg c = t') → t ≠ t' → ∀ c ∈ foot u, c ∉ foot w := fun h h' hne c hc hm => hne ((h c hc).symm.trans (h' c hm))
    have s0 : AV.cells AV.nilslice = some [AV.nilslice] ∧ AV.scalar AV.nilslice = true := ⟨rfl, rfl⟩
    have s3 := b.pio.rds.cells
    have s4 := b.wio.rds.cells
    obtain ⟨⟨_, k'⟩, e0, pv', wv', w, M, _, n1, n2, hr, e1, e2, e3, e4, e5, e6, e7, e8, e9, e10, e11, e12⟩ := BkI.add_core b.row b.pio b.wio hlen b.h2i ho hL hs (fgp b.tpi (by omega)) (fgp b.twi (by omega)) (apt b.tpi b.twi (by omega)) (fgp ht (by omega)) (apt ht b.tpi (by omega)) (fun e he a ha c hc => ⟨fun h => by have := hn e he a ha c hc; rw [h, b.tgg] at this; omega, fun h => by have := hn e he a ha c hc; have := b.tpi c h; omega⟩) ⟨s3.1, s3.2.1⟩ ⟨s4.1, s4.2.1⟩ s0 s0
    cases hr
    obtain ⟨tg', htg⟩ : ∃ tg' : Nat → Nat, tg' = fun c => if c < k.length then tg c else if c < n1 then 2 else if c < n2 then 6 else 3 := ⟨_, rfl⟩
    have old : ∀ c, c < k.length → tg' c = tg c := fun c hc => by rw [htg]; simp only; rw [if_pos hc]
    have newP : ∀ c ∈ foot pv', tg' c = 2 := fun c hc => by have := e9 c hc; rw [htg]; simp only; rw [if_neg (by omega), if_pos (by omega)]
    have newW : ∀ c ∈ foot wv', tg' c = 3 := fun c hc => by have := e12 c hc; rw [htg]; simp only; rw [if_neg (by omega), if_neg (by omega), if_neg (by omega)]
    have new6 : ∀ c, n1 ≤ c ∧ c < n2 → tg' c = 6 := fun c hc => by rw [htg]; simp only; rw [if_neg (by omega), if_neg (by omega), if_pos (by omega)]
    have s : Stp (fun t => t = 1 ∨ t = 2 ∨ t = 3) k k' tg tg' := Stp.of e6 (fun z hz _ => by
      simp only [List.mem_cons, List.mem_append] at hz
      rcases hz with rfl | hz | hz
      · exact .inl b.tgg
      · exact .inr (.inl (b.tpi z hz))
      · exact .inr (.inr (b.twi z hz))) old
    clear htg
    obtain ⟨X', hX⟩ : ∃ X' : Nat → List BkI.It, ∀ i, X' i = if i = vi.length then X else Xi i := ⟨_, fun i => rfl⟩
    refine ⟨_, e0, k', tg', vi.length + 1, rfl, ⟨pv', wv', vi ++ [v], ui ++ [w], X', ⟨e1, (old g hgl).trans b.tgg, e2, e3, newP, newW, by have := b.h2i; simp; omega, by simp; omega, fun i h => by
        by_cases hi : i < vi.length
        · simp only [List.getElem_append_left hi]
          obtain ⟨L', o, r, t, u⟩ := b.hvi i hi
          have hne : ¬ i = vi.length := by omega
          rw [hX i, if_neg hne]
          exact ⟨L', o.stp s (fun c hc => by rw [t c hc]; simp; omega), r.stp s (fun e he a ha c hc => by rw [u e he a ha c hc]; simp), fun c hc => (old c (o.lt c hc)).trans (t c hc), fun e he a ha c hc => (old c (r.lt0 e he a ha c hc)).trans (u e he a ha c hc)⟩
        · have e : i = vi.length := by simp at h; omega
          subst e
          simp only [List.getElem_append_right (Nat.le_refl _), Nat.sub_self, List.getElem_cons_zero]
          rw [hX _, if_pos rfl]
          exact ⟨L, ho.stp s (fun c hc => by rw [ht c hc]; simp; omega), hL.stp s (fun e he a ha c hc => by rw [hn e he a ha c hc]; simp), fun c hc => by rw [old c (ho.lt c hc), ht c hc], fun e he a ha c hc => (old c (hL.lt0 e he a ha c hc)).trans (hn e he a ha c hc)⟩, fun i h => by
        by_cases hi : i < ui.length
        · simp only [List.getElem_append_left hi]
          obtain ⟨L', o, r, t, u⟩ := b.hui i hi
          have hne : ¬ i = vi.length := by have := b.h2i; omega
          rw [hX i, if_neg hne]
          exact ⟨L', o.stp s (fun c hc => by rw [t c hc]; simp), r.stp s (fun e he a ha c hc => by rw [u e he a ha c hc]; simp), fun c hc => (old c (o.lt c hc)).trans (t c hc), fun e he a ha c hc => (old c (r.lt0 e he a ha c hc)).trans (u e he a ha c hc)⟩
        · have e : i = vi.length := by have := b.h2i; simp at h; omega
          subst e
          have e2 : (ui ++ [w])[vi.length] = w := by
            rw [List.getElem_append_right (by have := b.h2i; omega)]
            simp [b.h2i]
          rw [e2, hX _, if_pos rfl]
          exact ⟨M, e4, e5, fun c hc => new6 c (e10 c hc), fun e he a ha c hc => new6 c (e11 e he a ha c hc)⟩, fun i => by rw [hX i]; split; exact hs; exact b.sxi i⟩, by simp⟩, s⟩
  · exact ⟨_, BkI.add_full b.row b.pio (by omega), k, tg, _, rfl, ⟨pi, wi, vi, ui, Xi, b, rfl⟩, Stp.refl _ _ _⟩
theorem Book.stp {T : Nat → Prop} {k k' : H} {tg tg' : Nat → Nat} {g ni : Nat} (b : Book k tg g ni) (s : Stp T k k' tg tg') (hT : ∀ t, T t → ¬ BkTag t) : Book k' tg' g ni := by
  obtain ⟨pi, wi, vi, ui, Xi, b, h2⟩ := b
  exact ⟨pi, wi, vi, ui, Xi, b.stp s hT, h2⟩
open Classical in
theorem pick_lists {n : Nat} {P : (i : Nat) → List (List AV) → Prop} (h : ∀ i, i < n → ∃ L, P i L) : ∃ Ls : Nat → List (List AV), (∀ i, i < n → P i (Ls i)) ∧ ∀ i, ¬ i < n → Ls i = [] := by
  refine ⟨fun i => if hi : i < n then Classical.choose (h i hi) else [], fun i hi => ?_, fun i hi => ?_⟩
  · simp only [hi, dif_pos]
    exact Classical.choose_spec (h i hi)
  · simp only [hi, dif_neg, not_false_iff]
theorem Book.apart {k : H} {tg : Nat → Nat} {g ni : Nat} (bk : Book k tg g ni) : Yld (call Lz.fs3 Lz.ex3 17 [.ptr g 0 0] k) fun r => r.1 = .bool true := by
  obtain ⟨pi, wi, vi, ui, Xi, b, _⟩ := bk
  obtain ⟨Li, hLi, hLi0⟩ := pick_lists (n := vi.length) (P := fun i L => ∀ h : i < vi.length, OwnE k 2 vi[i] L ∧ BkI.Reps k L (Xi i) ∧ ∀ c ∈ foot vi[i], tg c = 10 + 2 * i) (fun i hi => by obtain ⟨L, h1, h2, h3, _⟩ := b.hvi i hi; exact ⟨L, fun _ => ⟨h1, h2, h3⟩⟩)
  obtain ⟨Mi, hMi, _⟩ := pick_lists (n := ui.length) (P := fun i L => ∀ h : i < ui.length, OwnE k 2 ui[i] L ∧ BkI.Reps k L (Xi i)) (fun i hi => by obtain ⟨L, h1, h2, _⟩ := b.hui i hi; exact ⟨L, fun _ => ⟨h1, h2⟩⟩)
  have tvi := fun i h => (hLi i h h).2.2
  refine apart_call (Li := Li) (Mi := Mi) (Xi := Xi) b.row b.pio.rds b.wio.rds b.lvi b.h2i (fun i h => ⟨(hLi i h h).1, (hLi i h h).2.1⟩) (fun i h => ⟨(hMi i h h).1.rds, (hMi i h h).2⟩)
    (fun i => ?_) ⟨fun i h hm => ?_, fun i h c hc hm => ?_, fun i j hi hj hij c hc hm => ?_⟩
  · refine ⟨b.sxi i, ?_⟩
    by_cases hi : i < vi.length
    · have h := (hLi i hi hi).2.1
      exact ⟨by rw [h.len]; exact (b.sxi i), h.size⟩
    · rw [hLi0 i hi]; simp
  · have := tvi i h g hm; rw [b.tgg] at this; omega
  · have := tvi i h c hm; rw [b.tpi c hc] at this; omega
  · have h1 := tvi i hi c hc; have h2 := tvi j hj c hm; omega
/-- A new book. -/
theorem Book.fresh {k : H} {tg : Nat → Nat} : Book (k ++ [bookB .nilslice .nilslice .nilslice .nilslice]) (fun c => if c = k.length then 1 else tg c) k.length 0 :=
  ⟨.nilslice, .nilslice, [], [], fun _ => [], ⟨by simp, by simp, .inl ⟨rfl, rfl⟩, .inl ⟨rfl, rfl⟩, by simp [foot], by simp [foot], rfl, by simp, by simp, by simp, by simp⟩, rfl⟩
end Go.Proofs.YtgnenipkebelfaaGreatDoor.Bk
