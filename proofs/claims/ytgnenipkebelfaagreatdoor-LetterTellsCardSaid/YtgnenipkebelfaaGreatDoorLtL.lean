/- Letters: letters out of bytes (written by genlt5.py) -/
import Derived.Test.YtgnenipkebelfaaGreatDoorLtK
set_option maxRecDepth 100000
set_option linter.unusedVariables false
set_option linter.unusedSimpArgs false
namespace Go.Proofs.YtgnenipkebelfaaGreatDoor.Lt
open Go Go.Eng F Pk Bk

def lH : List Nat := [7, 10]
def fsH := fsBut fsD lH
theorem fsH_ok : FsOk Tryz.prog fsH := fsBut_ok fsD_ok _
noncomputable def exH : FuncId → List AV → M AV := exDrop lH (call fsC exC) exD
theorem exH_ok : CfSound Tryz.prog exH := exDrop_ok _ (call_sound fsC exC fsC_ok exC_ok) exD_ok
theorem eH {f : FuncId} (hf : fsH f = none) (vs : List AV) (h : H) : call fsH exH f vs h = exH f vs h := call_ex fsH exH hf _ _
theorem dH {f : FuncId} {vs : List AV} {h z : H} {v : AV} (hf : lH.contains f = true) (hn : fsH f = none) (hc : call fsC exC f vs h = some (v, h ++ z)) (hv : flatA v = true) : call fsH exH f vs h = some (v, h) := (eH hn _ _).trans (drop_eq hf hc hv)
theorem oH {f : FuncId} (hX : fsH f = none) (hl : lH.contains f = false) (hP : fsD f = none) (vs : List AV) (h : H) : call fsH exH f vs h = call fsD exD f vs h := by
  rw [call_ex fsH exH hX, call_ex fsD exD hP]
  unfold exH exDrop
  rw [if_neg (by rw [hl]; decide)]
theorem eH_WriteString (vs : List AV) (h : H) : call fsH exH 20 vs h = call fsD exD 20 vs h := oH rfl rfl rfl _ _
theorem eH_String (vs : List AV) (h : H) : call fsH exH 24 vs h = call fsD exD 24 vs h := oH rfl rfl rfl _ _
theorem eH_Fields (vs : List AV) (h : H) : call fsH exH 43 vs h = call fsD exD 43 vs h := oH rfl rfl rfl _ _
theorem eH_Num (vs : List AV) (h : H) : call fsH exH 72 vs h = call fsD exD 72 vs h := oH rfl rfl rfl _ _
theorem eH_Text (vs : List AV) (h : H) : call fsH exH 75 vs h = call fsD exD 75 vs h := oH rfl rfl rfl _ _
theorem eH_rNum (vs : List AV) (h : H) : call fsH exH 32 vs h = call fsD exD 32 vs h := oH rfl rfl rfl _ _
theorem eH_rText (vs : List AV) (h : H) : call fsH exH 35 vs h = call fsD exD 35 vs h := oH rfl rfl rfl _ _
theorem eH_Wide (vs : List AV) (h : H) : call fsH exH 21 vs h = call fsD exD 21 vs h := oH rfl rfl rfl _ _
theorem eH_rWide (vs : List AV) (h : H) : call fsH exH 33 vs h = call fsD exD 33 vs h := oH rfl rfl rfl _ _
theorem eH_From (vs : List AV) (h : H) : call fsH exH 38 vs h = call fsD exD 38 vs h := oH rfl rfl rfl _ _
theorem eH_pNum (vs : List AV) (h : H) : call fsH exH 87 vs h = call fsD exD 87 vs h := oH rfl rfl rfl _ _
theorem eH_rrNum (vs : List AV) (h : H) : call fsH exH 89 vs h = call fsD exD 89 vs h := oH rfl rfl rfl _ _
theorem eH_pText (vs : List AV) (h : H) : call fsH exH 86 vs h = call fsD exD 86 vs h := oH rfl rfl rfl _ _
theorem eH_rrText (vs : List AV) (h : H) : call fsH exH 92 vs h = call fsD exD 92 vs h := oH rfl rfl rfl _ _
theorem eH_pWide (vs : List AV) (h : H) : call fsH exH 84 vs h = call fsD exD 84 vs h := oH rfl rfl rfl _ _
theorem eH_rrWide (vs : List AV) (h : H) : call fsH exH 90 vs h = call fsD exD 90 vs h := oH rfl rfl rfl _ _
theorem eH_Bad (vs : List AV) (h : H) : call fsH exH 88 vs h = call fsD exD 88 vs h := oH rfl rfl rfl _ _
theorem eH_End (vs : List AV) (h : H) : call fsH exH 40 vs h = call fsD exD 40 vs h := oH rfl rfl rfl _ _
theorem eH_small (vs : List AV) (h : H) : call fsH exH 28 vs h = call fsD exD 28 vs h := oH rfl rfl rfl _ _
theorem eH_wide (vs : List AV) (h : H) : call fsH exH 29 vs h = call fsD exD 29 vs h := oH rfl rfl rfl _ _
theorem eH_texts (vs : List AV) (h : H) : call fsH exH 30 vs h = call fsD exD 30 vs h := oH rfl rfl rfl _ _
theorem eH_items (vs : List AV) (h : H) : call fsH exH 31 vs h = call fsD exD 31 vs h := oH rfl rfl rfl _ _
theorem eH_rlines (vs : List AV) (h : H) : call fsH exH 27 vs h = call fsD exD 27 vs h := oH rfl rfl rfl _ _
theorem eH_SameItems (vs : List AV) (h : H) : call fsH exH 37 vs h = call fsD exD 37 vs h := oH rfl rfl rfl _ _
theorem eH_byteful (vs : List AV) (h : H) : call fsH exH 25 vs h = call fsD exD 25 vs h := oH rfl rfl rfl _ _
theorem eH_numeral (vs : List AV) (h : H) : call fsH exH 26 vs h = call fsD exD 26 vs h := oH rfl rfl rfl _ _
theorem eH_rflag (vs : List AV) (h : H) : call fsH exH 36 vs h = call fsD exD 36 vs h := oH rfl rfl rfl _ _
theorem eH_Right (vs : List AV) (h : H) : call fsH exH 9 vs h = call fsD exD 9 vs h := oH rfl rfl rfl _ _
theorem eH_rLetter (vs : List AV) (h : H) : call fsH exH 8 vs h = call fsD exD 8 vs h := oH rfl rfl rfl _ _
theorem eH_SameTold (vs : List AV) (h : H) : call fsH exH 42 vs h = call fsD exD 42 vs h := oH rfl rfl rfl _ _
theorem eH_SameLetter (vs : List AV) (h : H) : call fsH exH 15 vs h = call fsD exD 15 vs h := oH rfl rfl rfl _ _
def lI : List Nat := []
def fsI := fsBut fsH lI
theorem fsI_ok : FsOk Tryz.prog fsI := fsBut_ok fsH_ok _
noncomputable def exI : FuncId → List AV → M AV := exDrop lI (call fsD exD) exH
theorem exI_ok : CfSound Tryz.prog exI := exDrop_ok _ (call_sound fsD exD fsD_ok exD_ok) exH_ok
theorem eI {f : FuncId} (hf : fsI f = none) (vs : List AV) (h : H) : call fsI exI f vs h = exI f vs h := call_ex fsI exI hf _ _
theorem dI {f : FuncId} {vs : List AV} {h z : H} {v : AV} (hf : lI.contains f = true) (hn : fsI f = none) (hc : call fsD exD f vs h = some (v, h ++ z)) (hv : flatA v = true) : call fsI exI f vs h = some (v, h) := (eI hn _ _).trans (drop_eq hf hc hv)
theorem oI {f : FuncId} (hX : fsI f = none) (hl : lI.contains f = false) (hP : fsH f = none) (vs : List AV) (h : H) : call fsI exI f vs h = call fsH exH f vs h := by
  rw [call_ex fsI exI hX, call_ex fsH exH hP]
  unfold exI exDrop
  rw [if_neg (by rw [hl]; decide)]
theorem eI_WriteString (vs : List AV) (h : H) : call fsI exI 20 vs h = call fsH exH 20 vs h := oI rfl rfl rfl _ _
theorem eI_String (vs : List AV) (h : H) : call fsI exI 24 vs h = call fsH exH 24 vs h := oI rfl rfl rfl _ _
theorem eI_Fields (vs : List AV) (h : H) : call fsI exI 43 vs h = call fsH exH 43 vs h := oI rfl rfl rfl _ _
theorem eI_Num (vs : List AV) (h : H) : call fsI exI 72 vs h = call fsH exH 72 vs h := oI rfl rfl rfl _ _
theorem eI_Text (vs : List AV) (h : H) : call fsI exI 75 vs h = call fsH exH 75 vs h := oI rfl rfl rfl _ _
theorem eI_rNum (vs : List AV) (h : H) : call fsI exI 32 vs h = call fsH exH 32 vs h := oI rfl rfl rfl _ _
theorem eI_rText (vs : List AV) (h : H) : call fsI exI 35 vs h = call fsH exH 35 vs h := oI rfl rfl rfl _ _
theorem eI_Wide (vs : List AV) (h : H) : call fsI exI 21 vs h = call fsH exH 21 vs h := oI rfl rfl rfl _ _
theorem eI_rWide (vs : List AV) (h : H) : call fsI exI 33 vs h = call fsH exH 33 vs h := oI rfl rfl rfl _ _
theorem eI_From (vs : List AV) (h : H) : call fsI exI 38 vs h = call fsH exH 38 vs h := oI rfl rfl rfl _ _
theorem eI_pNum (vs : List AV) (h : H) : call fsI exI 87 vs h = call fsH exH 87 vs h := oI rfl rfl rfl _ _
theorem eI_rrNum (vs : List AV) (h : H) : call fsI exI 89 vs h = call fsH exH 89 vs h := oI rfl rfl rfl _ _
theorem eI_pText (vs : List AV) (h : H) : call fsI exI 86 vs h = call fsH exH 86 vs h := oI rfl rfl rfl _ _
theorem eI_rrText (vs : List AV) (h : H) : call fsI exI 92 vs h = call fsH exH 92 vs h := oI rfl rfl rfl _ _
theorem eI_pWide (vs : List AV) (h : H) : call fsI exI 84 vs h = call fsH exH 84 vs h := oI rfl rfl rfl _ _
theorem eI_rrWide (vs : List AV) (h : H) : call fsI exI 90 vs h = call fsH exH 90 vs h := oI rfl rfl rfl _ _
theorem eI_Bad (vs : List AV) (h : H) : call fsI exI 88 vs h = call fsH exH 88 vs h := oI rfl rfl rfl _ _
theorem eI_End (vs : List AV) (h : H) : call fsI exI 40 vs h = call fsH exH 40 vs h := oI rfl rfl rfl _ _
theorem eI_small (vs : List AV) (h : H) : call fsI exI 28 vs h = call fsH exH 28 vs h := oI rfl rfl rfl _ _
theorem eI_wide (vs : List AV) (h : H) : call fsI exI 29 vs h = call fsH exH 29 vs h := oI rfl rfl rfl _ _
theorem eI_texts (vs : List AV) (h : H) : call fsI exI 30 vs h = call fsH exH 30 vs h := oI rfl rfl rfl _ _
theorem eI_items (vs : List AV) (h : H) : call fsI exI 31 vs h = call fsH exH 31 vs h := oI rfl rfl rfl _ _
theorem eI_rlines (vs : List AV) (h : H) : call fsI exI 27 vs h = call fsH exH 27 vs h := oI rfl rfl rfl _ _
theorem eI_SameItems (vs : List AV) (h : H) : call fsI exI 37 vs h = call fsH exH 37 vs h := oI rfl rfl rfl _ _
theorem eI_byteful (vs : List AV) (h : H) : call fsI exI 25 vs h = call fsH exH 25 vs h := oI rfl rfl rfl _ _
theorem eI_numeral (vs : List AV) (h : H) : call fsI exI 26 vs h = call fsH exH 26 vs h := oI rfl rfl rfl _ _
theorem eI_rflag (vs : List AV) (h : H) : call fsI exI 36 vs h = call fsH exH 36 vs h := oI rfl rfl rfl _ _
theorem eI_Right (vs : List AV) (h : H) : call fsI exI 9 vs h = call fsH exH 9 vs h := oI rfl rfl rfl _ _
theorem eI_rLetter (vs : List AV) (h : H) : call fsI exI 8 vs h = call fsH exH 8 vs h := oI rfl rfl rfl _ _
theorem eI_SameTold (vs : List AV) (h : H) : call fsI exI 42 vs h = call fsH exH 42 vs h := oI rfl rfl rfl _ _
theorem eI_SameLetter (vs : List AV) (h : H) : call fsI exI 15 vs h = call fsH exH 15 vs h := oI rfl rfl rfl _ _
theorem eI_Put (vs : List AV) (h : H) : call fsI exI 7 vs h = call fsH exH 7 vs h := oI rfl rfl rfl _ _
theorem eI_rPut (vs : List AV) (h : H) : call fsI exI 10 vs h = call fsH exH 10 vs h := oI rfl rfl rfl _ _
theorem tblI : Tbl fsI exI := ⟨rfl, rfl, rfl, fun vs h => ((eI_WriteString _ _).trans ((eH_WriteString _ _).trans (eD_WriteString _ _))).trans (tblC.W vs h), fun vs h => ((eI_String _ _).trans ((eH_String _ _).trans (eD_String _ _))).trans (tblC.S vs h), fun vs h => ((eI_Num _ _).trans ((eH_Num _ _).trans (eD_Num _ _))).trans (tblC.N vs h), fun vs h => ((eI_Text _ _).trans ((eH_Text _ _).trans (eD_Text _ _))).trans (tblC.T vs h), fun vs h => ((eI_Wide _ _).trans ((eH_Wide _ _).trans (eD_Wide _ _))).trans (tblC.D vs h)⟩
theorem tblRI : TblR fsI exI := ⟨rfl, rfl, rfl, rfl, rfl, fun vs h => ((eI_From _ _).trans ((eH_From _ _).trans (eD_From _ _))).trans (tblRC.F vs h), fun vs h => ((eI_Bad _ _).trans ((eH_Bad _ _).trans (eD_Bad _ _))).trans (tblRC.B vs h), fun vs h => ((eI_End _ _).trans ((eH_End _ _).trans (eD_End _ _))).trans (tblRC.E vs h), fun vs h => ((eI_pNum _ _).trans ((eH_pNum _ _).trans (eD_pNum _ _))).trans (tblRC.N vs h), fun vs h => ((eI_pText _ _).trans ((eH_pText _ _).trans (eD_pText _ _))).trans (tblRC.T vs h), fun vs h => ((eI_pWide _ _).trans ((eH_pWide _ _).trans (eD_pWide _ _))).trans (tblRC.W vs h), fun vs h => ((eI_rrNum _ _).trans ((eH_rrNum _ _).trans (eD_rrNum _ _))).trans (tblRC.rN vs h), fun vs h => ((eI_rrText _ _).trans ((eH_rrText _ _).trans (eD_rrText _ _))).trans (tblRC.rT vs h), fun vs h => ((eI_rrWide _ _).trans ((eH_rrWide _ _).trans (eD_rrWide _ _))).trans (tblRC.rW vs h)⟩
section
variable {k : H} {c d : List AV} {l m : Ltr}
theorem i_Put (hc : IsL k c l) : call fsI exI 7 [.agg c] k = some (.tuple [.str (if right l = true then putS l else []), .bool (right l)], k) := by
  obtain ⟨z, e⟩ := Put_call hc
  exact (eI_Put _ _).trans (dH rfl rfl e rfl)
theorem i_rPut (hc : IsL k c l) (g : Good l) (hw : Wf l) : call fsI exI 10 [.agg c] k = some (.str (putS l), k) := by
  obtain ⟨z, e⟩ := rPut_call hc g hw
  exact (eI_rPut _ _).trans (dH rfl rfl e rfl)
theorem i_Right (hc : IsL k c l) : call fsI exI 9 [.agg c] k = some (.bool (right l), k) := ((eI_Right _ _).trans ((eH_Right _ _).trans ((eD_Right _ _).trans (c_Right hc))))
theorem i_Letter (hc : IsL k c l) : call fsI exI 8 [.agg c] k = some (.bool (right l), k) := ((eI_rLetter _ _).trans ((eH_rLetter _ _).trans ((eD_rLetter _ _).trans (c_Letter hc))))
theorem i_same (hc : IsL k c l) (hd : IsL k d m) : call fsI exI 15 [.agg c, .agg d] k = some (.bool (same l m), k) := ((eI_SameLetter _ _).trans ((eH_SameLetter _ _).trans (d_same hc hd)))
end
def zeroLtr : Ltr := ⟨0, 0, 0, 0, 0, [], [], [], 0, 0, [], [], false, [], 0, 0, 0, 0, [], 0, 0⟩
def zc : List AV := [.int .i64 0, .int .i64 0, .int .i64 0, .int .i64 0, .int .i64 0, .str [], .str [], .str [], .int .i64 0, .int .i64 0, .str [], .nilslice, .bool false, .str [], .int .i64 0, .int .u64 0, .int .u64 0, .int .i64 0, .nilslice, .int .i64 0, .int .i64 0]
theorem zc_eq : zc = ltc zeroLtr .nilslice .nilslice := rfl
theorem zc_isLO (n : Nat) (k : H) : IsLO n k zc zeroLtr := ⟨.nilslice, .nilslice, rfl, .inl ⟨rfl, rfl⟩, .inl ⟨rfl, rfl⟩, by simp [foot], by simp [foot], by simp [foot], by simp [zeroLtr], by simp [zeroLtr]⟩
/-- A letter out of bytes. -/
def getS (b : List UInt8) : Ltr × Bool := if ((readW Rd.list ⟨b, false⟩).2.fin && (right (readW Rd.list ⟨b, false⟩).1 && (putS (readW Rd.list ⟨b, false⟩).1 == b))) = true then ((readW Rd.list ⟨b, false⟩).1, true) else (zeroLtr, false)
def getR (b : List UInt8) : Ltr × Bool := if (!(readW Rd.rlist ⟨b, false⟩).2.bad && (right (readW Rd.rlist ⟨b, false⟩).1 && (putS (readW Rd.rlist ⟨b, false⟩).1 == b))) = true then ((readW Rd.rlist ⟨b, false⟩).1, true) else (zeroLtr, false)
theorem wide_ltI (x : Rd) : ((x.wide.1 : Nat) : Int) ≤ 18446744073709551615 := by have := wide_lt x; omega
theorem readW_wf (L : Rd → List It × Rd) (x : Rd) : Wf (readW L x).1 := by
  unfold readW Wf
  refine ⟨⟨Int.natCast_nonneg _, ?_⟩, Int.natCast_nonneg _, ?_⟩
  · exact wide_ltI _
  · exact wide_ltI _
theorem getS_back {m : Ltr} (g : Good m) (w : Wf m) : getS (putS m) = (m, true) := by
  have h := readW_back list_back g w []
  rw [List.append_nil] at h
  unfold getS
  rw [h]
  have : right m = true := right_iff.2 g
  simp [this, Rd.fin]
theorem getR_back {m : Ltr} (g : Good m) (w : Wf m) : getR (putS m) = (m, true) := by
  have h := readW_back rlist_back g w []
  rw [List.append_nil] at h
  unfold getR
  rw [h]
  have : right m = true := right_iff.2 g
  simp [this]
theorem getS_ok {b : List UInt8} (h : (getS b).2 = true) : Good (getS b).1 ∧ Wf (getS b).1 ∧ putS (getS b).1 = b := by
  unfold getS at h ⊢
  split at h
  · rename_i hc
    rw [if_pos hc]
    simp only [Bool.and_eq_true, beq_iff_eq] at hc
    exact ⟨right_iff.1 hc.2.1, readW_wf _ _, hc.2.2⟩
  · cases h
theorem getR_ok {b : List UInt8} (h : (getR b).2 = true) : Good (getR b).1 ∧ Wf (getR b).1 ∧ putS (getR b).1 = b := by
  unfold getR at h ⊢
  split at h
  · rename_i hc
    rw [if_pos hc]
    simp only [Bool.and_eq_true, beq_iff_eq] at hc
    exact ⟨right_iff.1 hc.2.1, readW_wf _ _, hc.2.2⟩
  · cases h
theorem getS_no {b : List UInt8} (h : (getS b).2 = false) : getS b = (zeroLtr, false) := by
  unfold getS at h ⊢
  split at h
  · cases h
  · rename_i hc; rw [if_neg hc]
theorem getR_no {b : List UInt8} (h : (getR b).2 = false) : getR b = (zeroLtr, false) := by
  unfold getR at h ⊢
  split at h
  · cases h
  · rename_i hc; rw [if_neg hc]
theorem getR_eq (b : List UInt8) : getR b = getS b := by
  cases h1 : (getS b).2
  · cases h2 : (getR b).2
    · rw [getS_no h1, getR_no h2]
    · obtain ⟨g, w, e⟩ := getR_ok h2
      have := getS_back g w
      rw [e, ] at this
      rw [this] at h1
      cases h1
  · obtain ⟨g, w, e⟩ := getS_ok h1
    have h3 := getR_back g w
    have h4 := getS_back g w
    rw [e] at h3 h4
    rw [h3, h4]
set_option maxHeartbeats 16000000 in
theorem Get_call (b : List UInt8) (hb : b.length ≤ 281474976710656) (k : H) : ∃ c z, call fsI exI 12 [.str b] k = some (.tuple [.agg c, .bool (getS b).2], k ++ z) ∧ IsLO k.length (k ++ z) c (getS b).1 := by
  obtain ⟨c, K, e1, h1, h2, h3, h4⟩ := read_call tblRI (k := k ++ [Blk.row 21 [[AV.int .i64 0, AV.int .i64 0, AV.int .i64 0, AV.int .i64 0, AV.int .i64 0, AV.str [], AV.str [], AV.str [], AV.int .i64 0, AV.int .i64 0, AV.str [], AV.nilslice, AV.bool false, AV.str [], AV.int .i64 0, AV.int .u64 0, AV.int .u64 0, AV.int .i64 0, AV.nilslice, AV.int .i64 0, AV.int .i64 0]] true true, Blk.row 2 [[.str b, .bool false]] true true]) (r := k.length + 1) (x := ⟨b, false⟩) (by simp [Rd.blk]) hb
  have hp : K[k.length]? = some (Blk.row 21 [[AV.int .i64 0, AV.int .i64 0, AV.int .i64 0, AV.int .i64 0, AV.int .i64 0, AV.str [], AV.str [], AV.str [], AV.int .i64 0, AV.int .i64 0, AV.str [], AV.nilslice, AV.bool false, AV.str [], AV.int .i64 0, AV.int .u64 0, AV.int .u64 0, AV.int .i64 0, AV.nilslice, AV.int .i64 0, AV.int .i64 0]] true true) := h4.2 _ _ (by simp) (by simp)
  have hk : Chg k K [] := (Chg.app k _ []).trans h4 (fun a h => .inr (by simp at h; omega))
  have hkl : k.length < K.length := (List.getElem?_eq_some_iff.1 hp).1
  have hL : IsLO (k.length + 2) K c (readW Rd.list ⟨b, false⟩).1 := by simpa using h1
  have hwf := readW_wf Rd.list ⟨b, false⟩
  have hS : getS b = if ((readW Rd.list ⟨b, false⟩).2.fin && (right (readW Rd.list ⟨b, false⟩).1 && (putS (readW Rd.list ⟨b, false⟩).1 == b))) = true then ((readW Rd.list ⟨b, false⟩).1, true) else (zeroLtr, false) := rfl
  rw [hS]
  clear hS h1
  generalize (readW Rd.list ⟨b, false⟩).1 = l at *
  generalize (readW Rd.list ⟨b, false⟩).2 = y at *
  have s1 := hL
  obtain ⟨v1, v2, rfl, o1, o2, f1, f2, f3, l1, l2⟩ := s1
  have c1 := o1.rds.cells
  have c2 := o2.rds.cells
  have hLm := hL.more [Blk.row 21 [ltc l v1 v2] true true]
  have fin : ∀ (row : Blk) (l' : Ltr) (c' : List AV) (ok : Bool), (∀ k', IsLO (k.length + 2) k' c' l' ∨ (c' = ltc l v1 v2 ∧ l' = l)) → ∃ z, (K ++ [Blk.row 21 [ltc l v1 v2] true true]).set k.length row = k ++ z ∧ IsLO k.length (k ++ z) c' l' := by
    intro row l' c' ok h
    obtain ⟨z, hz⟩ := chg_app ((hk.more (k := [Blk.row 21 [ltc l v1 v2] true true])).set (b := k.length) (y := row) (.inr (Nat.le_refl _)))
    refine ⟨z, hz, ?_⟩
    have hm : IsLO (k.length + 2) (k ++ z) c' l' := by
      rw [← hz]
      rcases h ((K ++ [Blk.row 21 [ltc l v1 v2] true true]).set k.length row) with h | ⟨rfl, rfl⟩
      · exact h
      · exact hLm.keep (F := [k.length]) ((Chg.refl _ _).set (.inl (by simp))) (by simp)
    obtain ⟨u1, u2, e, o1, o2, f1, f2, f3, l1, l2⟩ := hm
    exact ⟨u1, u2, e, o1, o2, fun a h => by have := f1 a h; omega, fun a h => by have := f2 a h; omega, f3, l1, l2⟩
  have hno := fin (Blk.row 21 [[AV.int .i64 0, AV.int .i64 0, AV.int .i64 0, AV.int .i64 0, AV.int .i64 0, AV.str [], AV.str [], AV.str [], AV.int .i64 0, AV.int .i64 0, AV.str [], AV.nilslice, AV.bool false, AV.str [], AV.int .i64 0, AV.int .u64 0, AV.int .u64 0, AV.int .i64 0, AV.nilslice, AV.int .i64 0, AV.int .i64 0]] true true) zeroLtr zc false (fun k' => .inl (zc_isLO _ _))
  have hyes := fin (Blk.row 21 [ltc l v1 v2] true true) l (ltc l v1 v2) true (fun k' => .inr ⟨rfl, rfl⟩)
  clear fin
  have eP := i_Put hLm.isL
  have eE : call fsI exI 40 [.ptr (k.length + 1) 0 0] (K ++ [Blk.row 21 [ltc l v1 v2] true true]) = some (.bool y.fin, K ++ [Blk.row 21 [ltc l v1 v2] true true]) := by
    rw [tblRI.E]; simp only [exR, rdOf_eq (get_app h2)]
  have eF : call fsI exI 38 [.str b] (k ++ [Blk.row 21 [[AV.int .i64 0, AV.int .i64 0, AV.int .i64 0, AV.int .i64 0, AV.int .i64 0, AV.str [], AV.str [], AV.str [], AV.int .i64 0, AV.int .i64 0, AV.str [], AV.nilslice, AV.bool false, AV.str [], AV.int .i64 0, AV.int .u64 0, AV.int .u64 0, AV.int .i64 0, AV.nilslice, AV.int .i64 0, AV.int .i64 0]] true true]) = some (.ptr (k.length + 1) 0 0, k ++ [Blk.row 21 [[AV.int .i64 0, AV.int .i64 0, AV.int .i64 0, AV.int .i64 0, AV.int .i64 0, AV.str [], AV.str [], AV.str [], AV.int .i64 0, AV.int .i64 0, AV.str [], AV.nilslice, AV.bool false, AV.str [], AV.int .i64 0, AV.int .u64 0, AV.int .u64 0, AV.int .i64 0, AV.nilslice, AV.int .i64 0, AV.int .i64 0]] true true, Blk.row 2 [[.str b, .bool false]] true true]) := by
    rw [tblRI.F]; simp [exR, Rd.blk]
  have bad : ∀ {v : AV}, (∃ z, (K ++ [Blk.row 21 [ltc l v1 v2] true true]).set k.length (Blk.row 21 [[AV.int .i64 0, AV.int .i64 0, AV.int .i64 0, AV.int .i64 0, AV.int .i64 0, AV.str [], AV.str [], AV.str [], AV.int .i64 0, AV.int .i64 0, AV.str [], AV.nilslice, AV.bool false, AV.str [], AV.int .i64 0, AV.int .u64 0, AV.int .u64 0, AV.int .i64 0, AV.nilslice, AV.int .i64 0, AV.int .i64 0]] true true) = k ++ z ∧ IsLO k.length (k ++ z) zc zeroLtr) → call fsI exI 12 [.str b] k = some (.tuple [.agg zc, .bool false], (K ++ [Blk.row 21 [ltc l v1 v2] true true]).set k.length (Blk.row 21 [[AV.int .i64 0, AV.int .i64 0, AV.int .i64 0, AV.int .i64 0, AV.int .i64 0, AV.str [], AV.str [], AV.str [], AV.int .i64 0, AV.int .i64 0, AV.str [], AV.nilslice, AV.bool false, AV.str [], AV.int .i64 0, AV.int .u64 0, AV.int .u64 0, AV.int .i64 0, AV.nilslice, AV.int .i64 0, AV.int .i64 0]] true true)) → ∃ c z, call fsI exI 12 [.str b] k = some (.tuple [.agg c, .bool false], k ++ z) ∧ IsLO k.length (k ++ z) c zeroLtr := by
    rintro v ⟨z, h1, h2⟩ h3
    exact ⟨zc, z, by rw [h3, h1], h2⟩
  cases hf : y.fin
  · rw [hf] at eE
    refine bad (v := .nilslice) hno ?_
    rw [call_eq fsI exI (f := 12) (sf := sf12) rfl]
    unfold zc
    unfold ltc at *
    simp [sf12, evB, recheck, wantsOp, AV.same, sames, eqCells, eqLeaf, toL_some, asc, fzero, fnone, List.map_cons, List.map_nil, resVals, resVal, resOf, partV, fillA, putCells, fillEls, strBin, minV, optNat, appendEls, elsOf, sliceSlV, sliceStrV, List.replicate, List.getElem?_append_left, List.getElem?_append_right, List.set_append_left, List.set_append_right, List.getElem?_set_self, List.getElem?_set_ne, c1.1, c1.2.1, c1.2.2, c2.1, c2.2.1, c2.2.2, hp, get_app hp, set_app hp, get_set_same hp, get_set_app hp, set_set_app hp, len_beq hp, beq_len hp,  eF, e1, eP, eE]
  · rw [hf] at eE
    cases hr : right l
    · rw [hr] at eP
      refine bad (v := .nilslice) hno ?_
      rw [call_eq fsI exI (f := 12) (sf := sf12) rfl]
      unfold zc
      unfold ltc at *
      simp [sf12, evB, recheck, wantsOp, AV.same, sames, eqCells, eqLeaf, toL_some, asc, fzero, fnone, List.map_cons, List.map_nil, resVals, resVal, resOf, partV, fillA, putCells, fillEls, strBin, minV, optNat, appendEls, elsOf, sliceSlV, sliceStrV, List.replicate, List.getElem?_append_left, List.getElem?_append_right, List.set_append_left, List.set_append_right, List.getElem?_set_self, List.getElem?_set_ne, c1.1, c1.2.1, c1.2.2, c2.1, c2.2.1, c2.2.2, hp, get_app hp, set_app hp, get_set_same hp, get_set_app hp, set_set_app hp, len_beq hp, beq_len hp,  eF, e1, eP, eE]
    · rw [hr] at eP
      rw [if_pos rfl] at eP
      by_cases hq : putS l = b
      · have hq' : (putS l == b) = true := by simpa using hq
        obtain ⟨z, hz, hi⟩ := hyes
        refine ⟨ltc l v1 v2, z, ?_, by simpa [hq'] using hi⟩
        rw [← hz]
        rw [call_eq fsI exI (f := 12) (sf := sf12) rfl]
        unfold ltc at *
        simp [sf12, evB, recheck, wantsOp, AV.same, sames, eqCells, eqLeaf, toL_some, asc, fzero, fnone, List.map_cons, List.map_nil, resVals, resVal, resOf, partV, fillA, putCells, fillEls, strBin, minV, optNat, appendEls, elsOf, sliceSlV, sliceStrV, List.replicate, List.getElem?_append_left, List.getElem?_append_right, List.set_append_left, List.set_append_right, List.getElem?_set_self, List.getElem?_set_ne, c1.1, c1.2.1, c1.2.2, c2.1, c2.2.1, c2.2.2, hp, get_app hp, set_app hp, get_set_same hp, get_set_app hp, set_set_app hp, len_beq hp, beq_len hp,  eF, e1, eP, eE, hq']
      · have hq' : (putS l == b) = false := by simpa using hq
        rw [hq']
        refine bad (v := .nilslice) hno ?_
        rw [call_eq fsI exI (f := 12) (sf := sf12) rfl]
        unfold zc
        unfold ltc at *
        simp [sf12, evB, recheck, wantsOp, AV.same, sames, eqCells, eqLeaf, toL_some, asc, fzero, fnone, List.map_cons, List.map_nil, resVals, resVal, resOf, partV, fillA, putCells, fillEls, strBin, minV, optNat, appendEls, elsOf, sliceSlV, sliceStrV, List.replicate, List.getElem?_append_left, List.getElem?_append_right, List.set_append_left, List.set_append_right, List.getElem?_set_self, List.getElem?_set_ne, c1.1, c1.2.1, c1.2.2, c2.1, c2.2.1, c2.2.2, hp, get_app hp, set_app hp, get_set_same hp, get_set_app hp, set_set_app hp, len_beq hp, beq_len hp,  eF, e1, eP, eE, hq']
set_option maxHeartbeats 16000000 in
theorem rGet_call (b : List UInt8) (hb : b.length ≤ 281474976710656) (k : H) : ∃ c z, call fsI exI 13 [.str b] k = some (.tuple [.agg c, .bool (getR b).2], k ++ z) ∧ IsLO k.length (k ++ z) c (getR b).1 := by
  obtain ⟨c, K, e1, h1, h2, h3, h4⟩ := rletter_call tblRI (k := k ++ [Blk.row 21 [[AV.int .i64 0, AV.int .i64 0, AV.int .i64 0, AV.int .i64 0, AV.int .i64 0, AV.str [], AV.str [], AV.str [], AV.int .i64 0, AV.int .i64 0, AV.str [], AV.nilslice, AV.bool false, AV.str [], AV.int .i64 0, AV.int .u64 0, AV.int .u64 0, AV.int .i64 0, AV.nilslice, AV.int .i64 0, AV.int .i64 0]] true true, Blk.row 2 [[.str b, .bool false]] true true]) (r := k.length + 1) (x := ⟨b, false⟩) (by simp [Rd.blk]) hb
  have hp : K[k.length]? = some (Blk.row 21 [[AV.int .i64 0, AV.int .i64 0, AV.int .i64 0, AV.int .i64 0, AV.int .i64 0, AV.str [], AV.str [], AV.str [], AV.int .i64 0, AV.int .i64 0, AV.str [], AV.nilslice, AV.bool false, AV.str [], AV.int .i64 0, AV.int .u64 0, AV.int .u64 0, AV.int .i64 0, AV.nilslice, AV.int .i64 0, AV.int .i64 0]] true true) := h4.2 _ _ (by simp) (by simp)
  have hk : Chg k K [] := (Chg.app k _ []).trans h4 (fun a h => .inr (by simp at h; omega))
  have hkl : k.length < K.length := (List.getElem?_eq_some_iff.1 hp).1
  have hL : IsLO (k.length + 2) K c (readW Rd.rlist ⟨b, false⟩).1 := by simpa using h1
  have hwf := readW_wf Rd.rlist ⟨b, false⟩
  have hS : getR b = if (!(readW Rd.rlist ⟨b, false⟩).2.bad && (right (readW Rd.rlist ⟨b, false⟩).1 && (putS (readW Rd.rlist ⟨b, false⟩).1 == b))) = true then ((readW Rd.rlist ⟨b, false⟩).1, true) else (zeroLtr, false) := rfl
  rw [hS]
  clear hS h1
  generalize (readW Rd.rlist ⟨b, false⟩).1 = l at *
  generalize (readW Rd.rlist ⟨b, false⟩).2 = y at *
  have s1 := hL
  obtain ⟨v1, v2, rfl, o1, o2, f1, f2, f3, l1, l2⟩ := s1
  have c1 := o1.rds.cells
  have c2 := o2.rds.cells
  have hLm := hL.more [Blk.row 21 [ltc l v1 v2] true true]
  have fin : ∀ (row : Blk) (l' : Ltr) (c' : List AV) (ok : Bool), (∀ k', IsLO (k.length + 2) k' c' l' ∨ (c' = ltc l v1 v2 ∧ l' = l)) → ∃ z, (K ++ [Blk.row 21 [ltc l v1 v2] true true]).set k.length row = k ++ z ∧ IsLO k.length (k ++ z) c' l' := by
    intro row l' c' ok h
    obtain ⟨z, hz⟩ := chg_app ((hk.more (k := [Blk.row 21 [ltc l v1 v2] true true])).set (b := k.length) (y := row) (.inr (Nat.le_refl _)))
    refine ⟨z, hz, ?_⟩
    have hm : IsLO (k.length + 2) (k ++ z) c' l' := by
      rw [← hz]
      rcases h ((K ++ [Blk.row 21 [ltc l v1 v2] true true]).set k.length row) with h | ⟨rfl, rfl⟩
      · exact h
      · exact hLm.keep (F := [k.length]) ((Chg.refl _ _).set (.inl (by simp))) (by simp)
    obtain ⟨u1, u2, e, o1, o2, f1, f2, f3, l1, l2⟩ := hm
    exact ⟨u1, u2, e, o1, o2, fun a h => by have := f1 a h; omega, fun a h => by have := f2 a h; omega, f3, l1, l2⟩
  have hno := fin (Blk.row 21 [[AV.int .i64 0, AV.int .i64 0, AV.int .i64 0, AV.int .i64 0, AV.int .i64 0, AV.str [], AV.str [], AV.str [], AV.int .i64 0, AV.int .i64 0, AV.str [], AV.nilslice, AV.bool false, AV.str [], AV.int .i64 0, AV.int .u64 0, AV.int .u64 0, AV.int .i64 0, AV.nilslice, AV.int .i64 0, AV.int .i64 0]] true true) zeroLtr zc false (fun k' => .inl (zc_isLO _ _))
  have hyes := fin (Blk.row 21 [ltc l v1 v2] true true) l (ltc l v1 v2) true (fun k' => .inr ⟨rfl, rfl⟩)
  clear fin
  have eL := i_Letter hLm.isL
  have hrow : K[k.length + 1]? = some (.row 2 [[.str y.b, .bool y.bad]] true true) := h2
  have bad : ∀ {v : AV}, (∃ z, (K ++ [Blk.row 21 [ltc l v1 v2] true true]).set k.length (Blk.row 21 [[AV.int .i64 0, AV.int .i64 0, AV.int .i64 0, AV.int .i64 0, AV.int .i64 0, AV.str [], AV.str [], AV.str [], AV.int .i64 0, AV.int .i64 0, AV.str [], AV.nilslice, AV.bool false, AV.str [], AV.int .i64 0, AV.int .u64 0, AV.int .u64 0, AV.int .i64 0, AV.nilslice, AV.int .i64 0, AV.int .i64 0]] true true) = k ++ z ∧ IsLO k.length (k ++ z) zc zeroLtr) → call fsI exI 13 [.str b] k = some (.tuple [.agg zc, .bool false], (K ++ [Blk.row 21 [ltc l v1 v2] true true]).set k.length (Blk.row 21 [[AV.int .i64 0, AV.int .i64 0, AV.int .i64 0, AV.int .i64 0, AV.int .i64 0, AV.str [], AV.str [], AV.str [], AV.int .i64 0, AV.int .i64 0, AV.str [], AV.nilslice, AV.bool false, AV.str [], AV.int .i64 0, AV.int .u64 0, AV.int .u64 0, AV.int .i64 0, AV.nilslice, AV.int .i64 0, AV.int .i64 0]] true true)) → ∃ c z, call fsI exI 13 [.str b] k = some (.tuple [.agg c, .bool false], k ++ z) ∧ IsLO k.length (k ++ z) c zeroLtr := by
    rintro v ⟨z, h1, h2⟩ h3
    exact ⟨zc, z, by rw [h3, h1], h2⟩
  cases hf : y.bad
  rotate_left
  · rw [hf] at hrow
    refine bad (v := .nilslice) hno ?_
    rw [call_eq fsI exI (f := 13) (sf := sf13) rfl]
    unfold zc
    unfold ltc at *
    simp [sf13, evB, recheck, wantsOp, AV.same, sames, eqCells, eqLeaf, toL_some, asc, fzero, fnone, List.map_cons, List.map_nil, resVals, resVal, resOf, partV, fillA, putCells, fillEls, strBin, minV, optNat, appendEls, elsOf, sliceSlV, sliceStrV, List.replicate, List.getElem?_append_left, List.getElem?_append_right, List.set_append_left, List.set_append_right, List.getElem?_set_self, List.getElem?_set_ne, c1.1, c1.2.1, c1.2.2, c2.1, c2.2.1, c2.2.2, hp, get_app hp, set_app hp, get_set_same hp, get_set_app hp, set_set_app hp, len_beq hp, beq_len hp,  e1, hrow, get_app hrow, set_app hrow, get_set_same hrow, get_set_app hrow, set_set_app hrow, len_beq hrow, beq_len hrow]
  · rw [hf] at hrow
    cases hr : right l
    · rw [hr] at eL
      refine bad (v := .nilslice) hno ?_
      rw [call_eq fsI exI (f := 13) (sf := sf13) rfl]
      unfold zc
      unfold ltc at *
      simp [sf13, evB, recheck, wantsOp, AV.same, sames, eqCells, eqLeaf, toL_some, asc, fzero, fnone, List.map_cons, List.map_nil, resVals, resVal, resOf, partV, fillA, putCells, fillEls, strBin, minV, optNat, appendEls, elsOf, sliceSlV, sliceStrV, List.replicate, List.getElem?_append_left, List.getElem?_append_right, List.set_append_left, List.set_append_right, List.getElem?_set_self, List.getElem?_set_ne, c1.1, c1.2.1, c1.2.2, c2.1, c2.2.1, c2.2.2, hp, get_app hp, set_app hp, get_set_same hp, get_set_app hp, set_set_app hp, len_beq hp, beq_len hp,  e1, eL, hrow, get_app hrow, set_app hrow, get_set_same hrow, get_set_app hrow, set_set_app hrow, len_beq hrow, beq_len hrow]
    · rw [hr] at eL
      have eP := i_rPut hLm.isL (right_iff.1 hr) hwf
      by_cases hq : putS l = b
      · have hq' : (putS l == b) = true := by simpa using hq
        obtain ⟨z, hz, hi⟩ := hyes
        refine ⟨ltc l v1 v2, z, ?_, by simpa [hq'] using hi⟩
        rw [← hz]
        rw [call_eq fsI exI (f := 13) (sf := sf13) rfl]
        unfold ltc at *
        simp [sf13, evB, recheck, wantsOp, AV.same, sames, eqCells, eqLeaf, toL_some, asc, fzero, fnone, List.map_cons, List.map_nil, resVals, resVal, resOf, partV, fillA, putCells, fillEls, strBin, minV, optNat, appendEls, elsOf, sliceSlV, sliceStrV, List.replicate, List.getElem?_append_left, List.getElem?_append_right, List.set_append_left, List.set_append_right, List.getElem?_set_self, List.getElem?_set_ne, c1.1, c1.2.1, c1.2.2, c2.1, c2.2.1, c2.2.2, hp, get_app hp, set_app hp, get_set_same hp, get_set_app hp, set_set_app hp, len_beq hp, beq_len hp,  e1, eP, eL, hrow, get_app hrow, set_app hrow, get_set_same hrow, get_set_app hrow, set_set_app hrow, len_beq hrow, beq_len hrow, hq']
      · have hq' : (putS l == b) = false := by simpa using hq
        rw [hq']
        refine bad (v := .nilslice) hno ?_
        rw [call_eq fsI exI (f := 13) (sf := sf13) rfl]
        unfold zc
        unfold ltc at *
        simp [sf13, evB, recheck, wantsOp, AV.same, sames, eqCells, eqLeaf, toL_some, asc, fzero, fnone, List.map_cons, List.map_nil, resVals, resVal, resOf, partV, fillA, putCells, fillEls, strBin, minV, optNat, appendEls, elsOf, sliceSlV, sliceStrV, List.replicate, List.getElem?_append_left, List.getElem?_append_right, List.set_append_left, List.set_append_right, List.getElem?_set_self, List.getElem?_set_ne, c1.1, c1.2.1, c1.2.2, c2.1, c2.2.1, c2.2.2, hp, get_app hp, set_app hp, get_set_same hp, get_set_app hp, set_set_app hp, len_beq hp, beq_len hp,  e1, eP, eL, hrow, get_app hrow, set_app hrow, get_set_same hrow, get_set_app hrow, set_set_app hrow, len_beq hrow, beq_len hrow, hq']
end Go.Proofs.YtgnenipkebelfaaGreatDoor.Lt
