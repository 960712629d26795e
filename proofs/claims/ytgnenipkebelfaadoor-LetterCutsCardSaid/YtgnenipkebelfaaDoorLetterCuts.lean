/- Letters: LetterCuts. -/
import Derived.Test.YtgnenipkebelfaaDoorLtN
set_option maxRecDepth 100000
set_option linter.unusedVariables false
set_option linter.unusedSimpArgs false
namespace Go.Proofs.YtgnenipkebelfaaDoor.Lt
open Go Go.Eng F Pk Bk

theorem app_le {a b : List UInt8} {m n : Nat} (h1 : a.length ≤ m) (h2 : b.length ≤ n) : (a ++ b).length ≤ m + n := by rw [List.length_append]; exact Nat.add_le_add h1 h2
theorem text_le256 {s : List UInt8} (h : s.length ≤ 255) : (textS s).length ≤ 256 := by rw [textS_len]; omega
theorem putS_le {l : Ltr} (g : Good l) : (putS l).length ≤ 100000 :=
  Nat.le_trans (app_le (Nat.le_of_eq (numS_len _)) (app_le (Nat.le_of_eq (numS_len _)) (app_le (Nat.le_of_eq (numS_len _)) (app_le (Nat.le_of_eq (numS_len _)) (app_le (Nat.le_of_eq (numS_len _)) (app_le (Nat.le_of_eq (numS_len _)) (app_le (Nat.le_of_eq (numS_len _)) (app_le (Nat.le_of_eq (wideS_len _)) (app_le (Nat.le_of_eq (wideS_len _)) (app_le (itemsS_len g.it) (app_le (Nat.le_of_eq (numS_len _)) (app_le (text_le256 g.key) (app_le (text_le256 g.value) (app_le (text_le256 g.to2) (app_le (Nat.le_of_eq (numS_len _)) (app_le (Nat.le_of_eq (numS_len _)) (app_le (text_le256 g.tv) (app_le (itemsS_len g.ti) (app_le (Nat.le_of_eq (numS_len _)) (app_le (text_le256 g.next) (Nat.le_of_eq (numS_len _)))))))))))))))))))))) (by decide)
theorem getS_cut {l : Ltr} (g : Good l) (w : Wf l) {j : Nat} (hj : j < (putS l).length) : (getS ((putS l).take j)).2 = false := by
  cases h : (getS ((putS l).take j)).2
  · rfl
  · obtain ⟨g2, w2, e⟩ := getS_ok h
    have h3 : putS (getS ((putS l).take j)).1 ++ (putS l).drop j = putS l ++ [] := by rw [e, List.take_append_drop, List.append_nil]
    have := (put_inj g2 w2 g w h3).2
    have h4 := congrArg List.length this
    simp at h4
    omega
theorem getS_longer {l : Ltr} (g : Good l) (w : Wf l) {t : List UInt8} (ht : t ≠ []) : (getS (putS l ++ t)).2 = false := by
  cases h : (getS (putS l ++ t)).2
  · rfl
  · obtain ⟨g2, w2, e⟩ := getS_ok h
    have h3 : putS (getS (putS l ++ t)).1 ++ [] = putS l ++ t := by rw [e, List.append_nil]
    exact absurd (put_inj g2 w2 g w h3).2.symm ht
/-- Where it is cut. -/
theorem cut_at (n : Int) (len : Nat) (h0 : 0 < len) (hl : len ≤ 1000000) : ∃ j : Nat, j < len ∧ (IntKind.i64.wrap (n.tmod len + len)).tmod len = j := by
  have h1 : n.tmod len < len := by
    have := Int.tmod_lt_of_pos n (show (0 : Int) < len by omega)
    exact this
  have h2 : -(len : Int) < n.tmod len := by
    have := Int.lt_tmod_of_pos n (show (0 : Int) < len by omega)
    exact this
  have hw : IntKind.i64.wrap (n.tmod len + len) = n.tmod len + len := wrap_i64 (by omega) (by omega)
  rw [hw]
  have h3 : 0 ≤ (n.tmod len + len).tmod len := Int.tmod_nonneg _ (by omega)
  have h4 : (n.tmod len + len).tmod len < len := Int.tmod_lt_of_pos _ (by omega)
  exact ⟨((n.tmod len + len).tmod len).toNat, by omega, by omega⟩
set_option maxHeartbeats 16000000 in
theorem cuts_law {k : H} {c : List AV} {l : Ltr} (hc : IsL k c l) (w : Wf l) (n : Int) : Yld (call fsK exK 3 [.agg c, .int .i64 n] k) fun r => r.1 = .bool true := by
  refine yld_shut fun Q hQ => ?_
  have hQ' : ∀ k, Q (.bool true, k) := fun k => hQ _ rfl
  clear hQ
  rw [call_eq fsK exK (f := 3) (sf := sf3) rfl]
  have hc' := hc.app [Blk.row 21 [c] true true]
  obtain ⟨b1, e1⟩ := k_Light hc'
  have e3 := k_alive (k ++ [Blk.row 21 [c] true true])
  have e4 := k_Put hc'
  obtain ⟨v1, v2, rfl, h1, h2, _, _⟩ := hc
  have s1 := h1.cells
  have s2 := h2.cells
  clear hc'
  cases b1
  · unfold ltc at *
    simp [sf3, evB, recheck, wantsOp, AV.same, sames, eqCells, eqLeaf, toL_some, asc, fzero, fnone, List.map_cons, List.map_nil, resVals, resVal, resOf, partV, fillA, putCells, fillEls, strBin, minV, optNat, appendEls, elsOf, sliceSlV, sliceStrV, List.replicate, List.getElem?_append_left, List.getElem?_append_right, List.set_append_left, List.set_append_right, List.getElem?_set_self, List.getElem?_set_ne, e1, e3, hQ', s1.1, s1.2.1, s1.2.2, s2.1, s2.2.1, s2.2.2]
  cases hl : right l
  · rw [hl] at e4
    unfold ltc at *
    simp [sf3, evB, recheck, wantsOp, AV.same, sames, eqCells, eqLeaf, toL_some, asc, fzero, fnone, List.map_cons, List.map_nil, resVals, resVal, resOf, partV, fillA, putCells, fillEls, strBin, minV, optNat, appendEls, elsOf, sliceSlV, sliceStrV, List.replicate, List.getElem?_append_left, List.getElem?_append_right, List.set_append_left, List.set_append_right, List.getElem?_set_self, List.getElem?_set_ne, e1, e3, e4, hQ', s1.1, s1.2.1, s1.2.2, s2.1, s2.2.1, s2.2.2]
  rw [hl, if_pos rfl] at e4
  have g := right_iff.1 hl
  have hlen := putS_le g
  have hpos := put_pos l
  obtain ⟨j, hj, hcut⟩ := cut_at n (putS l).length hpos (by omega)
  have hn1 := getS_cut g w hj
  have hn2 := getS_longer g w (t := [120]) (by simp)
  obtain ⟨c1, z1, e5, i1⟩ := k_Get ((putS l).take j) (by rw [List.length_take]; omega) (k ++ [Blk.row 21 [ltc l v1 v2] true true])
  rw [hn1] at e5
  obtain ⟨u1, u2, rfl, o1, o2, _, _, _, _, _⟩ := i1
  generalize (getS ((putS l).take j)).1 = l1 at *
  obtain ⟨c2, z2, e6, i2⟩ := k_Get (putS l ++ [120]) (by simp; omega) (k ++ [Blk.row 21 [ltc l v1 v2] true true] ++ z1 ++ [Blk.row 21 [ltc l1 u1 u2] true true])
  rw [hn2] at e6
  obtain ⟨x1, x2, rfl, p1, p2, _, _, _, _, _⟩ := i2
  generalize (getS (putS l ++ [120])).1 = l2 at *
  have t1 := o1.rds.cells
  have t2 := o2.rds.cells
  have y1 := p1.rds.cells
  have y2 := p2.rds.cells
  clear hn1 hn2 o1 o2 p1 p2
  generalize hP : putS l = P at *
  have hp0 : ¬ P.length = 0 := by omega
  have hp1 : ¬ (P.length : Int) = 0 := by omega
  have hp2 : ¬ P = [] := fun h => by rw [h] at hpos; simp at hpos
  have hp3 : ((P.length : Int) == 0) = false := by simpa using hp1
  have hjl : (j : Int) ≤ (P.length : Nat) := by omega
  have hjn : j ≤ P.length := by omega
  have hadd : binV .add (.str P) (.str [120]) = some (.str (P ++ [120])) := add_str (by simp; omega)
  simp only [List.append_assoc, List.cons_append, List.nil_append] at e5 e6
  unfold ltc at *
  simp [sf3, evB, recheck, wantsOp, AV.same, sames, eqCells, eqLeaf, toL_some, asc, fzero, fnone, List.map_cons, List.map_nil, resVals, resVal, resOf, partV, fillA, putCells, fillEls, strBin, minV, optNat, appendEls, elsOf, sliceSlV, sliceStrV, List.replicate, List.getElem?_append_left, List.getElem?_append_right, List.set_append_left, List.set_append_right, List.getElem?_set_self, List.getElem?_set_ne, e1, e3, e4, e5, e6, hcut, hp0, hp1, hp2, hp3, hjl, hjn, hadd, hQ', s1.1, s1.2.1, s1.2.2, s2.1, s2.2.1, s2.2.2, t1.1, t1.2.1, t1.2.2, t2.1, t2.2.1, t2.2.2, y1.1, y1.2.1, y1.2.2, y2.1, y2.2.1, y2.2.2]
end Go.Proofs.YtgnenipkebelfaaDoor.Lt
namespace Go.Proofs.YtgnenipkebelfaaDoor.Pure
open Go Go.Eng Lt
theorem LetterCuts : LawOk Tryd.prog 3 F.ss3 := by
  refine ⟨fsK, exK, fsK_ok, exK_ok, fun vs h _ hv => ?_⟩
  have hs : F.ss3 = [.st shL, .int .i64] := rfl
  rw [hs] at hv
  simp only [HasVs, HasV] at hv
  obtain ⟨_, _, rfl, ⟨c, rfl, h1⟩, _, _, rfl, h2, rfl⟩ := hv
  simp only [Has] at h2
  obtain ⟨b, e2, _⟩ := h2
  cases e2
  obtain ⟨l, hl, wl⟩ := has_letter h1
  exact cuts_law hl wl b
end Go.Proofs.YtgnenipkebelfaaDoor.Pure
