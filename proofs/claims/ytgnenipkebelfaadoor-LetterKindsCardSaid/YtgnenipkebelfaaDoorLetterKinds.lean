/- Letters: LetterKinds. -/
import Derived.Test.YtgnenipkebelfaaDoorLtN
set_option maxRecDepth 100000
set_option linter.unusedVariables false
set_option linter.unusedSimpArgs false
namespace Go.Proofs.YtgnenipkebelfaaDoor.Lt
open Go Go.Eng F Pk Bk

def kLtr (a : Int) : Ltr := ⟨a, 0, 0, 0, 0, [], [], [], 0, 0, [], [], false, [], 0, 0, 0, 0, [], 0, 0⟩
theorem kright (a : Int) : right (kLtr a) = (decide (1 ≤ a) && decide (a ≤ 16)) := by
  rw [Bool.eq_iff_iff]
  simp [right, kLtr, byteful, numeral, short, itemsOk]
  exact ⟨fun h => ⟨of_decide_eq_true h.1, of_decide_eq_true h.2⟩, fun h => ⟨decide_eq_true h.1, decide_eq_true h.2⟩⟩
theorem names_ne : ∀ m : Nat, m < 16 → (names[m]?).getD [] ≠ [] := by decide
theorem names_inj : ∀ m : Nat, m < 16 → ∀ n : Nat, n < 16 → (names[m]?).getD [] = (names[n]?).getD [] → m = n := by decide
theorem nameS_in {a : Int} (h1 : 1 ≤ a) (h2 : a ≤ 16) : nameS a ≠ [] := by
  unfold nameS
  rw [if_neg (by omega)]
  exact names_ne _ (by omega)
theorem nameS_inj {a b : Int} (h1 : 1 ≤ a) (h2 : a ≤ 16) (h : nameS a = nameS b) : a = b := by
  have ha := nameS_in h1 h2
  by_cases hb : b < 1 ∨ 16 < b
  · rw [h] at ha
    unfold nameS at ha
    rw [if_pos hb] at ha
    exact absurd rfl ha
  · unfold nameS at h
    rw [if_neg (by omega), if_neg hb] at h
    have := names_inj _ (by omega) _ (by omega) h
    omega
set_option maxHeartbeats 16000000 in
theorem kinds_law (a b : Int) (k : H) : Yld (call fsK exK 5 [.int .i64 a, .int .i64 b] k) fun r => r.1 = .bool true := by
  refine yld_shut fun Q hQ => ?_
  have hQ' : ∀ k, Q (.bool true, k) := fun k => hQ _ rfl
  clear hQ
  rw [call_eq fsK exK (f := 5) (sf := sf5) rfl]
  have e1 := k_alive k
  have e2 := k_Name a k
  have e3 := k_Name b k
  have e4 := k_Right (k := k) (isL_flat (l := kLtr a) rfl rfl)
  rw [kright] at e4
  simp only [ltc, kLtr] at e4
  by_cases h1 : 1 ≤ a
  · by_cases h2 : a ≤ 16
    · have hn := nameS_in h1 h2
      have hi : nameS a = nameS b → a = b := nameS_inj h1 h2
      have hn' : (nameS a).isEmpty = false := by simpa using hn
      generalize nameS a = p at *
      generalize nameS b = q at *
      by_cases h3 : a = b
      · subst h3
        have h3' : (a == a) = true := by simp
        simp [sf5, evB, recheck, wantsOp, AV.same, sames, eqCells, eqLeaf, toL_some, asc, fzero, fnone, List.map_cons, List.map_nil, resVals, resVal, resOf, partV, fillA, putCells, fillEls, strBin, minV, optNat, appendEls, elsOf, sliceSlV, sliceStrV, List.replicate, List.getElem?_append_left, List.getElem?_append_right, List.set_append_left, List.set_append_right, List.getElem?_set_self, List.getElem?_set_ne, e1, e2, e3, e4, h1, h2, hn, hn', h3', hQ']
      · have h3' : (a == b) = false := by simpa using h3
        have h4 : ¬ p = q := fun e => h3 (hi e)
        have h4' : (p == q) = false := by simpa using h4
        simp [sf5, evB, recheck, wantsOp, AV.same, sames, eqCells, eqLeaf, toL_some, asc, fzero, fnone, List.map_cons, List.map_nil, resVals, resVal, resOf, partV, fillA, putCells, fillEls, strBin, minV, optNat, appendEls, elsOf, sliceSlV, sliceStrV, List.replicate, List.getElem?_append_left, List.getElem?_append_right, List.set_append_left, List.set_append_right, List.getElem?_set_self, List.getElem?_set_ne, e1, e2, e3, e4, h1, h2, hn, hn', h3, h3', h4, h4', hQ']
    · have hn : nameS a = [] := by unfold nameS; rw [if_pos (by omega)]
      rw [hn] at e2
      simp [sf5, evB, recheck, wantsOp, AV.same, sames, eqCells, eqLeaf, toL_some, asc, fzero, fnone, List.map_cons, List.map_nil, resVals, resVal, resOf, partV, fillA, putCells, fillEls, strBin, minV, optNat, appendEls, elsOf, sliceSlV, sliceStrV, List.replicate, List.getElem?_append_left, List.getElem?_append_right, List.set_append_left, List.set_append_right, List.getElem?_set_self, List.getElem?_set_ne, e1, e2, e3, e4, h1, h2, hQ']
  · have hn : nameS a = [] := by unfold nameS; rw [if_pos (by omega)]
    rw [hn] at e2
    simp [sf5, evB, recheck, wantsOp, AV.same, sames, eqCells, eqLeaf, toL_some, asc, fzero, fnone, List.map_cons, List.map_nil, resVals, resVal, resOf, partV, fillA, putCells, fillEls, strBin, minV, optNat, appendEls, elsOf, sliceSlV, sliceStrV, List.replicate, List.getElem?_append_left, List.getElem?_append_right, List.set_append_left, List.set_append_right, List.getElem?_set_self, List.getElem?_set_ne, e1, e2, e3, e4, h1, hQ']
end Go.Proofs.YtgnenipkebelfaaDoor.Lt
namespace Go.Proofs.YtgnenipkebelfaaDoor.Pure
open Go Go.Eng Lt
theorem LetterKinds : LawOk Tryd.prog 5 F.ss5 := by
  refine ⟨fsK, exK, fsK_ok, exK_ok, fun vs h _ hv => ?_⟩
  have hs : F.ss5 = [.int .i64, .int .i64] := rfl
  rw [hs] at hv
  simp only [HasVs, HasV, Has] at hv
  obtain ⟨_, _, rfl, ⟨a, e1, _⟩, _, _, rfl, ⟨b, e2, _⟩, rfl⟩ := hv
  cases e1
  cases e2
  exact kinds_law a b h
end Go.Proofs.YtgnenipkebelfaaDoor.Pure
