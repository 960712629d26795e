/- Letters: alive (written by genlt7.py) -/
import Derived.Test.YtgnenipkebelfaaGreatDoorLtM
set_option maxRecDepth 100000
set_option linter.unusedVariables false
set_option linter.unusedSimpArgs false
namespace Go.Proofs.YtgnenipkebelfaaGreatDoor.Lt
open Go Go.Eng F Pk Bk

def lQ : List Nat := [12, 13]
def fsQ := fsBut fsI lQ
theorem fsQ_ok : FsOk Tryz.prog fsQ := fsBut_ok fsI_ok _
noncomputable def exQ : FuncId → List AV → M AV := fun f vs h => if lQ.contains f then call fsI exI f vs h else exI f vs h
theorem exQ_ok : CfSound Tryz.prog exQ := join_sound _ (call_sound fsI exI fsI_ok exI_ok) exI_ok
theorem eQ {f : FuncId} (hf : fsQ f = none) (vs : List AV) (h : H) : call fsQ exQ f vs h = exQ f vs h := call_ex fsQ exQ hf _ _
theorem oQ {f : FuncId} (hX : fsQ f = none) (hl : lQ.contains f = false) (hP : fsI f = none) (vs : List AV) (h : H) : call fsQ exQ f vs h = call fsI exI f vs h := by
  rw [call_ex fsQ exQ hX, call_ex fsI exI hP]
  unfold exQ
  rw [if_neg (by rw [hl]; decide)]
theorem eQ_WriteString (vs : List AV) (h : H) : call fsQ exQ 20 vs h = call fsI exI 20 vs h := oQ rfl rfl rfl _ _
theorem eQ_String (vs : List AV) (h : H) : call fsQ exQ 24 vs h = call fsI exI 24 vs h := oQ rfl rfl rfl _ _
theorem eQ_Fields (vs : List AV) (h : H) : call fsQ exQ 43 vs h = call fsI exI 43 vs h := oQ rfl rfl rfl _ _
theorem eQ_Num (vs : List AV) (h : H) : call fsQ exQ 72 vs h = call fsI exI 72 vs h := oQ rfl rfl rfl _ _
theorem eQ_Text (vs : List AV) (h : H) : call fsQ exQ 75 vs h = call fsI exI 75 vs h := oQ rfl rfl rfl _ _
theorem eQ_rNum (vs : List AV) (h : H) : call fsQ exQ 32 vs h = call fsI exI 32 vs h := oQ rfl rfl rfl _ _
theorem eQ_rText (vs : List AV) (h : H) : call fsQ exQ 35 vs h = call fsI exI 35 vs h := oQ rfl rfl rfl _ _
theorem eQ_Wide (vs : List AV) (h : H) : call fsQ exQ 21 vs h = call fsI exI 21 vs h := oQ rfl rfl rfl _ _
theorem eQ_rWide (vs : List AV) (h : H) : call fsQ exQ 33 vs h = call fsI exI 33 vs h := oQ rfl rfl rfl _ _
theorem eQ_From (vs : List AV) (h : H) : call fsQ exQ 38 vs h = call fsI exI 38 vs h := oQ rfl rfl rfl _ _
theorem eQ_pNum (vs : List AV) (h : H) : call fsQ exQ 87 vs h = call fsI exI 87 vs h := oQ rfl rfl rfl _ _
theorem eQ_rrNum (vs : List AV) (h : H) : call fsQ exQ 89 vs h = call fsI exI 89 vs h := oQ rfl rfl rfl _ _
theorem eQ_pText (vs : List AV) (h : H) : call fsQ exQ 86 vs h = call fsI exI 86 vs h := oQ rfl rfl rfl _ _
theorem eQ_rrText (vs : List AV) (h : H) : call fsQ exQ 92 vs h = call fsI exI 92 vs h := oQ rfl rfl rfl _ _
theorem eQ_pWide (vs : List AV) (h : H) : call fsQ exQ 84 vs h = call fsI exI 84 vs h := oQ rfl rfl rfl _ _
theorem eQ_rrWide (vs : List AV) (h : H) : call fsQ exQ 90 vs h = call fsI exI 90 vs h := oQ rfl rfl rfl _ _
theorem eQ_Bad (vs : List AV) (h : H) : call fsQ exQ 88 vs h = call fsI exI 88 vs h := oQ rfl rfl rfl _ _
theorem eQ_End (vs : List AV) (h : H) : call fsQ exQ 40 vs h = call fsI exI 40 vs h := oQ rfl rfl rfl _ _
theorem eQ_small (vs : List AV) (h : H) : call fsQ exQ 28 vs h = call fsI exI 28 vs h := oQ rfl rfl rfl _ _
theorem eQ_wide (vs : List AV) (h : H) : call fsQ exQ 29 vs h = call fsI exI 29 vs h := oQ rfl rfl rfl _ _
theorem eQ_texts (vs : List AV) (h : H) : call fsQ exQ 30 vs h = call fsI exI 30 vs h := oQ rfl rfl rfl _ _
theorem eQ_items (vs : List AV) (h : H) : call fsQ exQ 31 vs h = call fsI exI 31 vs h := oQ rfl rfl rfl _ _
theorem eQ_rlines (vs : List AV) (h : H) : call fsQ exQ 27 vs h = call fsI exI 27 vs h := oQ rfl rfl rfl _ _
theorem eQ_SameItems (vs : List AV) (h : H) : call fsQ exQ 37 vs h = call fsI exI 37 vs h := oQ rfl rfl rfl _ _
theorem eQ_byteful (vs : List AV) (h : H) : call fsQ exQ 25 vs h = call fsI exI 25 vs h := oQ rfl rfl rfl _ _
theorem eQ_numeral (vs : List AV) (h : H) : call fsQ exQ 26 vs h = call fsI exI 26 vs h := oQ rfl rfl rfl _ _
theorem eQ_rflag (vs : List AV) (h : H) : call fsQ exQ 36 vs h = call fsI exI 36 vs h := oQ rfl rfl rfl _ _
theorem eQ_Right (vs : List AV) (h : H) : call fsQ exQ 9 vs h = call fsI exI 9 vs h := oQ rfl rfl rfl _ _
theorem eQ_rLetter (vs : List AV) (h : H) : call fsQ exQ 8 vs h = call fsI exI 8 vs h := oQ rfl rfl rfl _ _
theorem eQ_SameTold (vs : List AV) (h : H) : call fsQ exQ 42 vs h = call fsI exI 42 vs h := oQ rfl rfl rfl _ _
theorem eQ_SameLetter (vs : List AV) (h : H) : call fsQ exQ 15 vs h = call fsI exI 15 vs h := oQ rfl rfl rfl _ _
theorem eQ_Put (vs : List AV) (h : H) : call fsQ exQ 7 vs h = call fsI exI 7 vs h := oQ rfl rfl rfl _ _
theorem eQ_rPut (vs : List AV) (h : H) : call fsQ exQ 10 vs h = call fsI exI 10 vs h := oQ rfl rfl rfl _ _
theorem eQ_Get (vs : List AV) (h : H) : call fsQ exQ 12 vs h = call fsI exI 12 vs h := (eQ rfl _ _).trans rfl
theorem eQ_rGet (vs : List AV) (h : H) : call fsQ exQ 13 vs h = call fsI exI 13 vs h := (eQ rfl _ _).trans rfl
def lJ : List Nat := [16, 4]
def fsJ := fsBut fsQ lJ
theorem fsJ_ok : FsOk Tryz.prog fsJ := fsBut_ok fsQ_ok _
noncomputable def exJ : FuncId → List AV → M AV := exDrop lJ (call fsI exI) exQ
theorem exJ_ok : CfSound Tryz.prog exJ := exDrop_ok _ (call_sound fsI exI fsI_ok exI_ok) exQ_ok
theorem eJ {f : FuncId} (hf : fsJ f = none) (vs : List AV) (h : H) : call fsJ exJ f vs h = exJ f vs h := call_ex fsJ exJ hf _ _
theorem dJ {f : FuncId} {vs : List AV} {h z : H} {v : AV} (hf : lJ.contains f = true) (hn : fsJ f = none) (hc : call fsI exI f vs h = some (v, h ++ z)) (hv : flatA v = true) : call fsJ exJ f vs h = some (v, h) := (eJ hn _ _).trans (drop_eq hf hc hv)
theorem oJ {f : FuncId} (hX : fsJ f = none) (hl : lJ.contains f = false) (hP : fsQ f = none) (vs : List AV) (h : H) : call fsJ exJ f vs h = call fsQ exQ f vs h := by
  rw [call_ex fsJ exJ hX, call_ex fsQ exQ hP]
  unfold exJ exDrop
  rw [if_neg (by rw [hl]; decide)]
theorem eJ_WriteString (vs : List AV) (h : H) : call fsJ exJ 20 vs h = call fsQ exQ 20 vs h := oJ rfl rfl rfl _ _
theorem eJ_String (vs : List AV) (h : H) : call fsJ exJ 24 vs h = call fsQ exQ 24 vs h := oJ rfl rfl rfl _ _
theorem eJ_Fields (vs : List AV) (h : H) : call fsJ exJ 43 vs h = call fsQ exQ 43 vs h := oJ rfl rfl rfl _ _
theorem eJ_Num (vs : List AV) (h : H) : call fsJ exJ 72 vs h = call fsQ exQ 72 vs h := oJ rfl rfl rfl _ _
theorem eJ_Text (vs : List AV) (h : H) : call fsJ exJ 75 vs h = call fsQ exQ 75 vs h := oJ rfl rfl rfl _ _
theorem eJ_rNum (vs : List AV) (h : H) : call fsJ exJ 32 vs h = call fsQ exQ 32 vs h := oJ rfl rfl rfl _ _
theorem eJ_rText (vs : List AV) (h : H) : call fsJ exJ 35 vs h = call fsQ exQ 35 vs h := oJ rfl rfl rfl _ _
theorem eJ_Wide (vs : List AV) (h : H) : call fsJ exJ 21 vs h = call fsQ exQ 21 vs h := oJ rfl rfl rfl _ _
theorem eJ_rWide (vs : List AV) (h : H) : call fsJ exJ 33 vs h = call fsQ exQ 33 vs h := oJ rfl rfl rfl _ _
theorem eJ_From (vs : List AV) (h : H) : call fsJ exJ 38 vs h = call fsQ exQ 38 vs h := oJ rfl rfl rfl _ _
theorem eJ_pNum (vs : List AV) (h : H) : call fsJ exJ 87 vs h = call fsQ exQ 87 vs h := oJ rfl rfl rfl _ _
theorem eJ_rrNum (vs : List AV) (h : H) : call fsJ exJ 89 vs h = call fsQ exQ 89 vs h := oJ rfl rfl rfl _ _
theorem eJ_pText (vs : List AV) (h : H) : call fsJ exJ 86 vs h = call fsQ exQ 86 vs h := oJ rfl rfl rfl _ _
theorem eJ_rrText (vs : List AV) (h : H) : call fsJ exJ 92 vs h = call fsQ exQ 92 vs h := oJ rfl rfl rfl _ _
theorem eJ_pWide (vs : List AV) (h : H) : call fsJ exJ 84 vs h = call fsQ exQ 84 vs h := oJ rfl rfl rfl _ _
theorem eJ_rrWide (vs : List AV) (h : H) : call fsJ exJ 90 vs h = call fsQ exQ 90 vs h := oJ rfl rfl rfl _ _
theorem eJ_Bad (vs : List AV) (h : H) : call fsJ exJ 88 vs h = call fsQ exQ 88 vs h := oJ rfl rfl rfl _ _
theorem eJ_End (vs : List AV) (h : H) : call fsJ exJ 40 vs h = call fsQ exQ 40 vs h := oJ rfl rfl rfl _ _
theorem eJ_small (vs : List AV) (h : H) : call fsJ exJ 28 vs h = call fsQ exQ 28 vs h := oJ rfl rfl rfl _ _
theorem eJ_wide (vs : List AV) (h : H) : call fsJ exJ 29 vs h = call fsQ exQ 29 vs h := oJ rfl rfl rfl _ _
theorem eJ_texts (vs : List AV) (h : H) : call fsJ exJ 30 vs h = call fsQ exQ 30 vs h := oJ rfl rfl rfl _ _
theorem eJ_items (vs : List AV) (h : H) : call fsJ exJ 31 vs h = call fsQ exQ 31 vs h := oJ rfl rfl rfl _ _
theorem eJ_rlines (vs : List AV) (h : H) : call fsJ exJ 27 vs h = call fsQ exQ 27 vs h := oJ rfl rfl rfl _ _
theorem eJ_SameItems (vs : List AV) (h : H) : call fsJ exJ 37 vs h = call fsQ exQ 37 vs h := oJ rfl rfl rfl _ _
theorem eJ_byteful (vs : List AV) (h : H) : call fsJ exJ 25 vs h = call fsQ exQ 25 vs h := oJ rfl rfl rfl _ _
theorem eJ_numeral (vs : List AV) (h : H) : call fsJ exJ 26 vs h = call fsQ exQ 26 vs h := oJ rfl rfl rfl _ _
theorem eJ_rflag (vs : List AV) (h : H) : call fsJ exJ 36 vs h = call fsQ exQ 36 vs h := oJ rfl rfl rfl _ _
theorem eJ_Right (vs : List AV) (h : H) : call fsJ exJ 9 vs h = call fsQ exQ 9 vs h := oJ rfl rfl rfl _ _
theorem eJ_rLetter (vs : List AV) (h : H) : call fsJ exJ 8 vs h = call fsQ exQ 8 vs h := oJ rfl rfl rfl _ _
theorem eJ_SameTold (vs : List AV) (h : H) : call fsJ exJ 42 vs h = call fsQ exQ 42 vs h := oJ rfl rfl rfl _ _
theorem eJ_SameLetter (vs : List AV) (h : H) : call fsJ exJ 15 vs h = call fsQ exQ 15 vs h := oJ rfl rfl rfl _ _
theorem eJ_Put (vs : List AV) (h : H) : call fsJ exJ 7 vs h = call fsQ exQ 7 vs h := oJ rfl rfl rfl _ _
theorem eJ_rPut (vs : List AV) (h : H) : call fsJ exJ 10 vs h = call fsQ exQ 10 vs h := oJ rfl rfl rfl _ _
theorem eJ_Get (vs : List AV) (h : H) : call fsJ exJ 12 vs h = call fsQ exQ 12 vs h := oJ rfl rfl rfl _ _
theorem eJ_rGet (vs : List AV) (h : H) : call fsJ exJ 13 vs h = call fsQ exQ 13 vs h := oJ rfl rfl rfl _ _
theorem j_Name (n : Int) (k : H) : call fsJ exJ 16 [.int .i64 n] k = some (.str (nameS n), k) := by
  obtain ⟨z, e⟩ := Name_call n k
  exact dJ rfl rfl e rfl
theorem j_Light {k : H} {c : List AV} {l : Ltr} (hc : IsL k c l) : ∃ b, call fsJ exJ 4 [.agg c] k = some (.bool b, k) := by
  obtain ⟨_, e, b, z, rfl⟩ := Light_loop hc
  exact ⟨b, dJ rfl rfl e rfl⟩
theorem j_Put {k : H} {c : List AV} {l : Ltr} (hc : IsL k c l) : call fsJ exJ 7 [.agg c] k = some (.tuple [.str (if right l = true then putS l else []), .bool (right l)], k) := ((eJ_Put _ _).trans ((eQ_Put _ _).trans (i_Put hc)))
theorem j_same {k : H} {c d : List AV} {l m : Ltr} (hc : IsL k c l) (hd : IsL k d m) : call fsJ exJ 15 [.agg c, .agg d] k = some (.bool (same l m), k) := ((eJ_SameLetter _ _).trans ((eQ_SameLetter _ _).trans (i_same hc hd)))
theorem j_Get (b : List UInt8) (hb : b.length ≤ 281474976710656) (k : H) : ∃ c z, call fsJ exJ 12 [.str b] k = some (.tuple [.agg c, .bool (getS b).2], k ++ z) ∧ IsLO k.length (k ++ z) c (getS b).1 := by
  obtain ⟨c, z, e, h⟩ := Get_call b hb k
  exact ⟨c, z, ((eJ_Get _ _).trans ((eQ_Get _ _).trans e)), h⟩
def xLtr : Ltr := ⟨10, 1, 2, 3, 0, [], [], [], 0, 0, [], [], false, [], 0, 5, 6, 0, [], 4, 0⟩
theorem isL_flat {k : H} {l : Ltr} (h1 : l.ti = []) (h2 : l.it = []) : IsL k (ltc l .nilslice .nilslice) l := ⟨_, _, rfl, .inl ⟨rfl, by rw [h1]; rfl⟩, .inl ⟨rfl, by rw [h2]; rfl⟩, by rw [h1]; simp, by rw [h2]; simp⟩
set_option maxHeartbeats 8000000 in
theorem alive_call (k : H) : ∃ z, call fsJ exJ 5 [] k = some (.bool true, k ++ z) := by
  rw [call_eq fsJ exJ (f := 5) (sf := sf5) rfl]
  have hr : right xLtr = true := by decide
  have g := right_iff.1 hr
  have w : Wf xLtr := by unfold Wf xLtr; simp
  have hg := getS_back g w
  have hb : (putS xLtr).length ≤ 281474976710656 := by
    have : (putS xLtr).length ≤ 1000 := by decide
    omega
  have e1 := j_Put (k := k ++ [Blk.row 21 [ltc xLtr .nilslice .nilslice] true true]) (isL_flat (l := xLtr) rfl rfl)
  rw [hr, if_pos rfl] at e1
  obtain ⟨c, z, e2, h2⟩ := j_Get (putS xLtr) hb (k ++ [Blk.row 21 [ltc xLtr .nilslice .nilslice] true true])
  rw [hg] at e2 h2
  have h3 := h2.isL
  obtain ⟨v1, v2, rfl, o1, o2, _, _, _, _, _⟩ := h2
  have s1 := o1.rds.cells
  have s2 := o2.rds.cells
  have e3 := j_same (k := k ++ [Blk.row 21 [ltc xLtr .nilslice .nilslice] true true] ++ z ++ [Blk.row 21 [ltc xLtr v1 v2] true true]) (isL_flat (l := xLtr) rfl rfl) (h3.app _)
  have hs : same xLtr xLtr = true := same_iff.2 rfl
  rw [hs] at e3
  have n1 : nameS 10 = [111, 102, 102, 101, 114] := by decide
  have n0 : nameS 0 = [] := by decide
  clear hg hb g w hr h3
  generalize putS xLtr = b at *
  simp only [List.append_assoc, List.cons_append, List.nil_append] at e2 e3
  unfold ltc xLtr at *
  simp [sf5, evB, recheck, wantsOp, AV.same, sames, eqCells, eqLeaf, toL_some, asc, fzero, fnone, List.map_cons, List.map_nil, resVals, resVal, resOf, partV, fillA, putCells, fillEls, strBin, minV, optNat, appendEls, elsOf, sliceSlV, sliceStrV, List.replicate, List.getElem?_append_left, List.getElem?_append_right, List.set_append_left, List.set_append_right, List.getElem?_set_self, List.getElem?_set_ne, e1, e2, e3, j_Name, n1, n0, s1.1, s1.2.1, s1.2.2, s2.1, s2.2.1, s2.2.2]
def lK : List Nat := [5]
def fsK := fsBut fsJ lK
theorem fsK_ok : FsOk Tryz.prog fsK := fsBut_ok fsJ_ok _
noncomputable def exK : FuncId → List AV → M AV := exDrop lK (call fsJ exJ) exJ
theorem exK_ok : CfSound Tryz.prog exK := exDrop_ok _ (call_sound fsJ exJ fsJ_ok exJ_ok) exJ_ok
theorem eK {f : FuncId} (hf : fsK f = none) (vs : List AV) (h : H) : call fsK exK f vs h = exK f vs h := call_ex fsK exK hf _ _
theorem dK {f : FuncId} {vs : List AV} {h z : H} {v : AV} (hf : lK.contains f = true) (hn : fsK f = none) (hc : call fsJ exJ f vs h = some (v, h ++ z)) (hv : flatA v = true) : call fsK exK f vs h = some (v, h) := (eK hn _ _).trans (drop_eq hf hc hv)
theorem oK {f : FuncId} (hX : fsK f = none) (hl : lK.contains f = false) (hP : fsJ f = none) (vs : List AV) (h : H) : call fsK exK f vs h = call fsJ exJ f vs h := by
  rw [call_ex fsK exK hX, call_ex fsJ exJ hP]
  unfold exK exDrop
  rw [if_neg (by rw [hl]; decide)]
theorem eK_WriteString (vs : List AV) (h : H) : call fsK exK 20 vs h = call fsJ exJ 20 vs h := oK rfl rfl rfl _ _
theorem eK_String (vs : List AV) (h : H) : call fsK exK 24 vs h = call fsJ exJ 24 vs h := oK rfl rfl rfl _ _
theorem eK_Fields (vs : List AV) (h : H) : call fsK exK 43 vs h = call fsJ exJ 43 vs h := oK rfl rfl rfl _ _
theorem eK_Num (vs : List AV) (h : H) : call fsK exK 72 vs h = call fsJ exJ 72 vs h := oK rfl rfl rfl _ _
theorem eK_Text (vs : List AV) (h : H) : call fsK exK 75 vs h = call fsJ exJ 75 vs h := oK rfl rfl rfl _ _
theorem eK_rNum (vs : List AV) (h : H) : call fsK exK 32 vs h = call fsJ exJ 32 vs h := oK rfl rfl rfl _ _
theorem eK_rText (vs : List AV) (h : H) : call fsK exK 35 vs h = call fsJ exJ 35 vs h := oK rfl rfl rfl _ _
theorem eK_Wide (vs : List AV) (h : H) : call fsK exK 21 vs h = call fsJ exJ 21 vs h := oK rfl rfl rfl _ _
theorem eK_rWide (vs : List AV) (h : H) : call fsK exK 33 vs h = call fsJ exJ 33 vs h := oK rfl rfl rfl _ _
theorem eK_From (vs : List AV) (h : H) : call fsK exK 38 vs h = call fsJ exJ 38 vs h := oK rfl rfl rfl _ _
theorem eK_pNum (vs : List AV) (h : H) : call fsK exK 87 vs h = call fsJ exJ 87 vs h := oK rfl rfl rfl _ _
theorem eK_rrNum (vs : List AV) (h : H) : call fsK exK 89 vs h = call fsJ exJ 89 vs h := oK rfl rfl rfl _ _
theorem eK_pText (vs : List AV) (h : H) : call fsK exK 86 vs h = call fsJ exJ 86 vs h := oK rfl rfl rfl _ _
theorem eK_rrText (vs : List AV) (h : H) : call fsK exK 92 vs h = call fsJ exJ 92 vs h := oK rfl rfl rfl _ _
theorem eK_pWide (vs : List AV) (h : H) : call fsK exK 84 vs h = call fsJ exJ 84 vs h := oK rfl rfl rfl _ _
theorem eK_rrWide (vs : List AV) (h : H) : call fsK exK 90 vs h = call fsJ exJ 90 vs h := oK rfl rfl rfl _ _
theorem eK_Bad (vs : List AV) (h : H) : call fsK exK 88 vs h = call fsJ exJ 88 vs h := oK rfl rfl rfl _ _
theorem eK_End (vs : List AV) (h : H) : call fsK exK 40 vs h = call fsJ exJ 40 vs h := oK rfl rfl rfl _ _
theorem eK_small (vs : List AV) (h : H) : call fsK exK 28 vs h = call fsJ exJ 28 vs h := oK rfl rfl rfl _ _
theorem eK_wide (vs : List AV) (h : H) : call fsK exK 29 vs h = call fsJ exJ 29 vs h := oK rfl rfl rfl _ _
theorem eK_texts (vs : List AV) (h : H) : call fsK exK 30 vs h = call fsJ exJ 30 vs h := oK rfl rfl rfl _ _
theorem eK_items (vs : List AV) (h : H) : call fsK exK 31 vs h = call fsJ exJ 31 vs h := oK rfl rfl rfl _ _
theorem eK_rlines (vs : List AV) (h : H) : call fsK exK 27 vs h = call fsJ exJ 27 vs h := oK rfl rfl rfl _ _
theorem eK_SameItems (vs : List AV) (h : H) : call fsK exK 37 vs h = call fsJ exJ 37 vs h := oK rfl rfl rfl _ _
theorem eK_byteful (vs : List AV) (h : H) : call fsK exK 25 vs h = call fsJ exJ 25 vs h := oK rfl rfl rfl _ _
theorem eK_numeral (vs : List AV) (h : H) : call fsK exK 26 vs h = call fsJ exJ 26 vs h := oK rfl rfl rfl _ _
theorem eK_rflag (vs : List AV) (h : H) : call fsK exK 36 vs h = call fsJ exJ 36 vs h := oK rfl rfl rfl _ _
theorem eK_Right (vs : List AV) (h : H) : call fsK exK 9 vs h = call fsJ exJ 9 vs h := oK rfl rfl rfl _ _
theorem eK_rLetter (vs : List AV) (h : H) : call fsK exK 8 vs h = call fsJ exJ 8 vs h := oK rfl rfl rfl _ _
theorem eK_SameTold (vs : List AV) (h : H) : call fsK exK 42 vs h = call fsJ exJ 42 vs h := oK rfl rfl rfl _ _
theorem eK_SameLetter (vs : List AV) (h : H) : call fsK exK 15 vs h = call fsJ exJ 15 vs h := oK rfl rfl rfl _ _
theorem eK_Put (vs : List AV) (h : H) : call fsK exK 7 vs h = call fsJ exJ 7 vs h := oK rfl rfl rfl _ _
theorem eK_rPut (vs : List AV) (h : H) : call fsK exK 10 vs h = call fsJ exJ 10 vs h := oK rfl rfl rfl _ _
theorem eK_Get (vs : List AV) (h : H) : call fsK exK 12 vs h = call fsJ exJ 12 vs h := oK rfl rfl rfl _ _
theorem eK_rGet (vs : List AV) (h : H) : call fsK exK 13 vs h = call fsJ exJ 13 vs h := oK rfl rfl rfl _ _
theorem eK_Name (vs : List AV) (h : H) : call fsK exK 16 vs h = call fsJ exJ 16 vs h := oK rfl rfl rfl _ _
theorem eK_Light (vs : List AV) (h : H) : call fsK exK 4 vs h = call fsJ exJ 4 vs h := oK rfl rfl rfl _ _
theorem k_alive (k : H) : call fsK exK 5 [] k = some (.bool true, k) := by
  obtain ⟨z, e⟩ := alive_call k
  exact dK rfl rfl e rfl
theorem k_Name (n : Int) (k : H) : call fsK exK 16 [.int .i64 n] k = some (.str (nameS n), k) := (eK_Name _ _).trans (j_Name n k)
theorem k_Light {k : H} {c : List AV} {l : Ltr} (hc : IsL k c l) : ∃ b, call fsK exK 4 [.agg c] k = some (.bool b, k) := by
  obtain ⟨b, e⟩ := j_Light hc
  exact ⟨b, (eK_Light _ _).trans e⟩
theorem k_Put {k : H} {c : List AV} {l : Ltr} (hc : IsL k c l) : call fsK exK 7 [.agg c] k = some (.tuple [.str (if right l = true then putS l else []), .bool (right l)], k) := (eK_Put _ _).trans (j_Put hc)
theorem k_same {k : H} {c d : List AV} {l m : Ltr} (hc : IsL k c l) (hd : IsL k d m) : call fsK exK 15 [.agg c, .agg d] k = some (.bool (same l m), k) := (eK_SameLetter _ _).trans (j_same hc hd)
theorem k_Get (b : List UInt8) (hb : b.length ≤ 281474976710656) (k : H) : ∃ c z, call fsK exK 12 [.str b] k = some (.tuple [.agg c, .bool (getS b).2], k ++ z) ∧ IsLO k.length (k ++ z) c (getS b).1 := by
  obtain ⟨c, z, e, h⟩ := j_Get b hb k
  exact ⟨c, z, (eK_Get _ _).trans e, h⟩
theorem k_Right {k : H} {c : List AV} {l : Ltr} (hc : IsL k c l) : call fsK exK 9 [.agg c] k = some (.bool (right l), k) := ((eK_Right _ _).trans ((eJ_Right _ _).trans ((eQ_Right _ _).trans (i_Right hc))))

theorem has_items {h : H} {v : AV} {els : List (List AV)} (hs : SlOf h 2 v els) (he : ∀ x ∈ els, Has h (.st [.str, .str]) x) : ∃ X : List It, RdS h 2 v (X.map itc) ∧ X.length = els.length := by
  have : ∃ X : List It, els = X.map itc := by
    clear hs
    induction els with
    | nil => exact ⟨[], rfl⟩
    | cons e els ih =>
      obtain ⟨X, hX⟩ := ih fun x hx => he x (by simp [hx])
      have h1 := he e (by simp)
      simp only [Has, HasF] at h1
      obtain ⟨a, b, rfl, ⟨s, rfl, _⟩, c, d, rfl, ⟨t, rfl, _⟩, rfl⟩ := h1
      exact ⟨(s, t) :: X, by rw [List.map_cons, ← hX]; rfl⟩
  obtain ⟨X, rfl⟩ := this
  exact ⟨X, slOf_rds hs, by simp⟩
def shL : List Sh := [(.int .i64), (.int .i64), (.int .i64), (.int .i64), (.st [(.int .i64), .str, .str, .str, (.int .i64)]), (.st [(.int .i64), .str, (.sl 32 (.st [.str, .str])), .bool, .str, (.int .i64)]), (.st [(.int .u64), (.int .u64)]), (.int .i64), (.sl 32 (.st [.str, .str])), (.int .i64), (.int .i64)]
theorem has_letter {h : H} {cs : List AV} (hh : HasF h shL cs) : ∃ l, IsL h cs l ∧ Wf l := by
  unfold shL at hh
  simp only [HasF, Has] at hh
  obtain ⟨_, _, rfl, ⟨kind, rfl, _⟩, _, _, rfl, ⟨frm, rfl, _⟩, _, _, rfl, ⟨dst, rfl, _⟩, _, _, rfl, ⟨id, rfl, _⟩, _, _, rfl, ⟨_, _, rfl, ⟨op, rfl, _⟩, _, _, rfl, ⟨key, rfl, _⟩, _, _, rfl, ⟨value, rfl, _⟩, _, _, rfl, ⟨to2, rfl, _⟩, _, _, rfl, ⟨most, rfl, _⟩, rfl⟩,
    _, _, rfl, ⟨_, _, rfl, ⟨errno, rfl, _⟩, _, _, rfl, ⟨tv, rfl, _⟩, _, _, rfl, ⟨v1, els1, rfl, hs1, hm1, _, he1⟩, _, _, rfl, ⟨more, rfl⟩, _, _, rfl, ⟨next, rfl, _⟩, _, _, rfl, ⟨tnode, rfl, _⟩, rfl⟩, _, _, rfl, ⟨_, _, rfl, ⟨af, rfl, waf⟩, _, _, rfl, ⟨at_, rfl, wat⟩, rfl⟩, _, _, rfl, ⟨ep, rfl, _⟩,
    _, _, rfl, ⟨v2, els2, rfl, hs2, hm2, _, he2⟩, _, _, rfl, ⟨n, rfl, _⟩, _, _, rfl, ⟨node, rfl, _⟩, rfl⟩ := hh
  obtain ⟨X1, r1, l1⟩ := has_items hs1 (fun x hx => by simpa only [Has, HasF] using he1 x hx)
  obtain ⟨X2, r2, l2⟩ := has_items hs2 (fun x hx => by simpa only [Has, HasF] using he2 x hx)
  exact ⟨⟨kind, frm, dst, id, op, key, value, to2, most, errno, tv, X1, more, next, tnode, af, at_, ep, X2, n, node⟩, ⟨v1, v2, rfl, r1, r2, by show X1.length < _; omega, by show X2.length < _; omega⟩, wf_u64 waf, wf_u64 wat⟩
end Go.Proofs.YtgnenipkebelfaaGreatDoor.Lt
