/- Letters: packets as bytes (written by genlt8.py) -/
import Derived.Test.YtgnenipkebelfaaDoorLtN
set_option maxRecDepth 100000
set_option linter.unusedVariables false
set_option linter.unusedSimpArgs false
namespace Go.Proofs.YtgnenipkebelfaaDoor.Lt
open Go Go.Eng F Pk Bk

theorem tblK : Tbl fsK exK := ⟨rfl, rfl, rfl, fun vs h => ((eK_WriteString _ _).trans ((eJ_WriteString _ _).trans ((eQ_WriteString _ _).trans (tblI.W vs h)))), fun vs h => ((eK_String _ _).trans ((eJ_String _ _).trans ((eQ_String _ _).trans (tblI.S vs h)))), fun vs h => ((eK_Num _ _).trans ((eJ_Num _ _).trans ((eQ_Num _ _).trans (tblI.N vs h)))), fun vs h => ((eK_Text _ _).trans ((eJ_Text _ _).trans ((eQ_Text _ _).trans (tblI.T vs h)))), fun vs h => ((eK_Wide _ _).trans ((eJ_Wide _ _).trans ((eQ_Wide _ _).trans (tblI.D vs h))))⟩
/-- A packet that may be. -/
def rightP (p : Pkt) : Bool := (byteful p.frm && byteful p.dst) && ((numeral p.seq && numeral p.ack) && (if p.seq = 0 then zeroL p.y else right p.y))
theorem k_small {k : H} {v : AV} {L : List Int} (hv : RdS k 1 v (L.map intc)) (hl : L.length < 4611686018427387904) : call fsK exK 37 [v] k = some (.bool (L.all byteful), k) := ((eK_small _ _).trans ((eJ_small _ _).trans ((eQ_small _ _).trans ((eI_small _ _).trans ((eH_small _ _).trans ((eD_small _ _).trans ((eC_small _ _).trans (b_small hv hl))))))))
theorem k_wide {k : H} {v : AV} {L : List Int} (hv : RdS k 1 v (L.map intc)) (hl : L.length < 4611686018427387904) : call fsK exK 38 [v] k = some (.bool (L.all numeral), k) := ((eK_wide _ _).trans ((eJ_wide _ _).trans ((eQ_wide _ _).trans ((eI_wide _ _).trans ((eH_wide _ _).trans ((eD_wide _ _).trans ((eC_wide _ _).trans (b_wide hv hl))))))))
theorem k_none {k : H} {c : List AV} {l : Ltr} (hc : IsL k c l) : call fsK exK 41 [.agg c] k = some (.bool (zeroL l), k) := ((eK_none _ _).trans ((eJ_none _ _).trans ((eQ_none _ _).trans (i_none hc))))
theorem app_len {a b : List UInt8} {m n : Nat} (h1 : a.length ≤ m) (h2 : b.length ≤ n) : (a ++ b).length ≤ m + n := by rw [List.length_append]; exact Nat.add_le_add h1 h2
theorem text_len256 {s : List UInt8} (h : s.length ≤ 255) : (textS s).length ≤ 256 := by rw [textS_len]; omega
theorem putS_len {l : Ltr} (g : Good l) : (putS l).length ≤ 100000 :=
  Nat.le_trans (app_len (Nat.le_of_eq (numS_len _)) (app_len (Nat.le_of_eq (numS_len _)) (app_len (Nat.le_of_eq (numS_len _)) (app_len (Nat.le_of_eq (numS_len _)) (app_len (Nat.le_of_eq (numS_len _)) (app_len (Nat.le_of_eq (numS_len _)) (app_len (Nat.le_of_eq (numS_len _)) (app_len (Nat.le_of_eq (wideS_len _)) (app_len (Nat.le_of_eq (wideS_len _)) (app_len (itemsS_len g.it) (app_len (Nat.le_of_eq (numS_len _)) (app_len (text_len256 g.key) (app_len (text_len256 g.value) (app_len (text_len256 g.to2) (app_len (Nat.le_of_eq (numS_len _)) (app_len (Nat.le_of_eq (numS_len _)) (app_len (text_len256 g.tv) (app_len (itemsS_len g.ti) (app_len (Nat.le_of_eq (numS_len _)) (app_len (text_len256 g.next) (Nat.le_of_eq (numS_len _)))))))))))))))))))))) (by decide)
theorem WrK.chg {K0 K : H} {s : List UInt8} {n : Nat} (w : WrK K0 K s n) : Chg K0 K [] := by
  obtain ⟨G, _, _, h, _⟩ := w
  exact h
set_option maxHeartbeats 16000000 in
theorem PutPacket_call {k : H} {c : List AV} {p : Pkt} (hc : IsP k c p) : ∃ z, call fsK exK 20 [.agg c] k = some (.tuple [.str (if rightP p = true then putPS p else []), .bool (rightP p)], k ++ z) := by
  obtain ⟨v1, v2, rfl, h1, h2, b1, b2⟩ := hc
  have s1 := h1.cells
  have s2 := h2.cells
  have hy : IsL k (ltc p.y v1 v2) p.y := ⟨v1, v2, rfl, h1, h2, b1, b2⟩
  have e1 := k_small (k := k ++ [Blk.row 25 [pktc p v1 v2] true true, Blk.row 1 [[AV.int .i64 p.frm], [AV.int .i64 p.dst]] true true]) (v := .slice (k.length + 1) 1 0 2 2 true) (L := [p.frm, p.dst]) (.inr (.inr ⟨k.length + 1, 2, true, [[.int .i64 p.frm], [.int .i64 p.dst]], true, true, rfl, by simp, rfl, by simp⟩)) (by simp)
  have e2 := k_wide (k := k ++ [Blk.row 25 [pktc p v1 v2] true true, Blk.row 1 [[AV.int .i64 p.frm], [AV.int .i64 p.dst]] true true, Blk.row 1 [[AV.int .i64 p.seq], [AV.int .i64 p.ack]] true true]) (v := .slice (k.length + 2) 1 0 2 2 true) (L := [p.seq, p.ack]) (.inr (.inr ⟨k.length + 2, 2, true, [[.int .i64 p.seq], [.int .i64 p.ack]], true, true, rfl, by simp, rfl, by simp⟩)) (by simp)
  have e3 := k_none (hy.app [Blk.row 25 [pktc p v1 v2] true true, Blk.row 1 [[AV.int .i64 p.frm], [AV.int .i64 p.dst]] true true, Blk.row 1 [[AV.int .i64 p.seq], [AV.int .i64 p.ack]] true true])
  have p1 : ([p.frm, p.dst].all byteful) = (byteful p.frm && byteful p.dst) := by simp
  have p2 : ([p.seq, p.ack].all numeral) = (numeral p.seq && numeral p.ack) := by simp
  rw [p1] at e1
  rw [p2] at e2
  rw [call_eq fsK exK (f := 20) (sf := sf20) rfl]
  unfold rightP
  cases hq1 : (byteful p.frm && byteful p.dst)
  · rw [hq1] at e1
    unfold pktc ltc at *
    simp [sf20, evB, recheck, wantsOp, AV.same, sames, eqCells, eqLeaf, toL_some, asc, fzero, fnone, List.map_cons, List.map_nil, resVals, resVal, resOf, partV, fillA, putCells, fillEls, strBin, minV, optNat, appendEls, elsOf, sliceSlV, sliceStrV, List.replicate, List.getElem?_append_left, List.getElem?_append_right, List.set_append_left, List.set_append_right, List.getElem?_set_self, List.getElem?_set_ne, s1.1, s1.2.1, s1.2.2, s2.1, s2.2.1, s2.2.2, e1]
  rw [hq1] at e1
  cases hq2 : (numeral p.seq && numeral p.ack)
  · rw [hq2] at e2
    unfold pktc ltc at *
    simp [sf20, evB, recheck, wantsOp, AV.same, sames, eqCells, eqLeaf, toL_some, asc, fzero, fnone, List.map_cons, List.map_nil, resVals, resVal, resOf, partV, fillA, putCells, fillEls, strBin, minV, optNat, appendEls, elsOf, sliceSlV, sliceStrV, List.replicate, List.getElem?_append_left, List.getElem?_append_right, List.set_append_left, List.set_append_right, List.getElem?_set_self, List.getElem?_set_ne, s1.1, s1.2.1, s1.2.2, s2.1, s2.2.1, s2.2.2, e1, e2]
  rw [hq2] at e2
  simp only [Bool.and_eq_true, byteful_iff, numeral_iff] at hq1 hq2
  have w0 := WrK.new (k ++ [Blk.row 25 [pktc p v1 v2] true true, Blk.row 1 [[AV.int .i64 p.frm], [AV.int .i64 p.dst]] true true, Blk.row 1 [[AV.int .i64 p.seq], [AV.int .i64 p.ack]] true true])
  have hb : (k ++ [Blk.row 25 [pktc p v1 v2] true true, Blk.row 1 [[AV.int .i64 p.frm], [AV.int .i64 p.dst]] true true, Blk.row 1 [[AV.int .i64 p.seq], [AV.int .i64 p.ack]] true true]).length = k.length + 3 := by simp
  have hrow : (k ++ [Blk.row 25 [pktc p v1 v2] true true, Blk.row 1 [[AV.int .i64 p.frm], [AV.int .i64 p.dst]] true true, Blk.row 1 [[AV.int .i64 p.seq], [AV.int .i64 p.ack]] true true])[k.length]? = some (Blk.row 25 [pktc p v1 v2] true true) := by simp
  obtain ⟨K1, e4, w1⟩ := w0.nums tblK [p.frm, p.dst, p.seq, p.ack] true (by
    intro x hx
    simp only [List.mem_cons, List.not_mem_nil, or_false] at hx
    rcases hx with rfl | rfl | rfl | rfl <;> omega) (by simp) (by simp)
  have r1 := w1.at_ hrow
  obtain ⟨z1, hz1⟩ := chg_app w1.chg
  have e5 := k_Put (k := K1) (by rw [hz1]; exact (hy.app [Blk.row 25 [pktc p v1 v2] true true, Blk.row 1 [[AV.int .i64 p.frm], [AV.int .i64 p.dst]] true true, Blk.row 1 [[AV.int .i64 p.seq], [AV.int .i64 p.ack]] true true]).app z1)
  obtain ⟨K9, e9, c9⟩ := w1.string tblK (by simp)
  simp only [hb, List.length_append, List.length_cons, List.length_nil, List.map_cons, List.map_nil, intc, Nat.zero_add, Nat.add_assoc, Nat.reduceAdd, List.flatMap_cons, List.flatMap_nil, List.append_nil, List.append_assoc, List.cons_append, List.nil_append] at e4 e9
  by_cases hs : p.seq = 0
  · have hs' : (p.seq == 0) = true := by simpa using hs
    have hs2 : ¬ (0 : Int) < p.seq := by omega
    rw [if_pos hs]
    cases hz : zeroL p.y
    · rw [hz] at e3
      unfold pktc ltc at *
      simp [sf20, evB, recheck, wantsOp, AV.same, sames, eqCells, eqLeaf, toL_some, asc, fzero, fnone, List.map_cons, List.map_nil, resVals, resVal, resOf, partV, fillA, putCells, fillEls, strBin, minV, optNat, appendEls, elsOf, sliceSlV, sliceStrV, List.replicate, List.getElem?_append_left, List.getElem?_append_right, List.set_append_left, List.set_append_right, List.getElem?_set_self, List.getElem?_set_ne, s1.1, s1.2.1, s1.2.2, s2.1, s2.2.1, s2.2.2, e1, e2, e3, hs']
    · rw [hz] at e3
      obtain ⟨z9, rfl⟩ := chg_app c9
      unfold putPS
      unfold pktc ltc at *
      simp [sf20, evB, recheck, wantsOp, AV.same, sames, eqCells, eqLeaf, toL_some, asc, fzero, fnone, List.map_cons, List.map_nil, resVals, resVal, resOf, partV, fillA, putCells, fillEls, strBin, minV, optNat, appendEls, elsOf, sliceSlV, sliceStrV, List.replicate, List.getElem?_append_left, List.getElem?_append_right, List.set_append_left, List.set_append_right, List.getElem?_set_self, List.getElem?_set_ne, s1.1, s1.2.1, s1.2.2, s2.1, s2.2.1, s2.2.2, e1, e2, e3, e4, e9, hs', hs2, r1, get_app r1, set_app r1, get_set_same r1, get_set_app r1, set_set_app r1, len_beq r1, beq_len r1]
  · have hs' : (p.seq == 0) = false := by simpa using hs
    have hs2 : (0 : Int) < p.seq := by omega
    rw [if_neg hs]
    cases hr : right p.y
    · rw [hr] at e5
      have hfin : ∃ z, K1 = k ++ z := ⟨_, by rw [hz1, List.append_assoc]⟩
      clear hz1
      unfold pktc ltc at *
      simp [sf20, evB, recheck, wantsOp, AV.same, sames, eqCells, eqLeaf, toL_some, asc, fzero, fnone, List.map_cons, List.map_nil, resVals, resVal, resOf, partV, fillA, putCells, fillEls, strBin, minV, optNat, appendEls, elsOf, sliceSlV, sliceStrV, List.replicate, List.getElem?_append_left, List.getElem?_append_right, List.set_append_left, List.set_append_right, List.getElem?_set_self, List.getElem?_set_ne, s1.1, s1.2.1, s1.2.2, s2.1, s2.2.1, s2.2.2, e1, e2, e3, e4, e5, hs', hs2, r1, get_app r1, set_app r1, get_set_same r1, get_set_app r1, set_set_app r1, len_beq r1, beq_len r1, hfin]
    · rw [hr, if_pos rfl] at e5
      have hpl := putS_len (right_iff.1 hr)
      have hpp : putS p.y ≠ [] := fun h => by have := put_pos p.y; rw [h] at this; simp at this
      obtain ⟨K2, e6, w2⟩ := w1.write tblK (t := putS p.y) (m := 100000) hpp hpl (by simp)
      obtain ⟨K3, e7, c3⟩ := w2.string tblK (by simp)
      obtain ⟨z3, rfl⟩ := chg_app c3
      have hput : putPS p = numS p.frm ++ (numS p.dst ++ (numS p.seq ++ (numS p.ack ++ putS p.y))) := by unfold putPS; rw [if_pos hs2]
      rw [hput]
      simp only [hb, List.map_cons, List.map_nil, intc, List.length_append, List.length_cons, List.length_nil, Nat.zero_add, Nat.add_assoc, Nat.reduceAdd, List.flatMap_cons, List.flatMap_nil, List.append_nil, List.append_assoc, List.cons_append, List.nil_append] at e6 e7
      clear hput hpl hpp w2 w1 c3 hz1
      unfold pktc ltc at *
      simp [sf20, evB, recheck, wantsOp, AV.same, sames, eqCells, eqLeaf, toL_some, asc, fzero, fnone, List.map_cons, List.map_nil, resVals, resVal, resOf, partV, fillA, putCells, fillEls, strBin, minV, optNat, appendEls, elsOf, sliceSlV, sliceStrV, List.replicate, List.getElem?_append_left, List.getElem?_append_right, List.set_append_left, List.set_append_right, List.getElem?_set_self, List.getElem?_set_ne, s1.1, s1.2.1, s1.2.2, s2.1, s2.2.1, s2.2.2, e1, e2, e3, e4, e5, e6, e7, hs', hs2, r1, get_app r1, set_app r1, get_set_same r1, get_set_app r1, set_set_app r1, len_beq r1, beq_len r1]
end Go.Proofs.YtgnenipkebelfaaDoor.Lt
