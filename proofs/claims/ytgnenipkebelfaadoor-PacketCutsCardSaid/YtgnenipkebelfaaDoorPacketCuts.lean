/- Letters: PacketCuts. -/
import Derived.Test.YtgnenipkebelfaaDoorLtY
set_option maxRecDepth 100000
set_option linter.unusedVariables false
set_option linter.unusedSimpArgs false
namespace Go.Proofs.YtgnenipkebelfaaDoor.Lt
open Go Go.Eng F Pk Bk

/-- Where it is cut. -/
theorem cutP_at (n : Int) (len : Nat) (h0 : 0 < len) (hl : len ≤ 1000000) : ∃ j : Nat, j < len ∧ (IntKind.i64.wrap (n.tmod len + len)).tmod len = j := by
  have h1 : n.tmod len < len := Int.tmod_lt_of_pos n (show (0 : Int) < len by omega)
  have h2 : -(len : Int) < n.tmod len := Int.lt_tmod_of_pos n (show (0 : Int) < len by omega)
  have hw : IntKind.i64.wrap (n.tmod len + len) = n.tmod len + len := wrap_i64 (by omega) (by omega)
  rw [hw]
  have h3 : 0 ≤ (n.tmod len + len).tmod len := Int.tmod_nonneg _ (by omega)
  have h4 : (n.tmod len + len).tmod len < len := Int.tmod_lt_of_pos _ (by omega)
  exact ⟨((n.tmod len + len).tmod len).toNat, by omega, by omega⟩
set_option maxHeartbeats 16000000 in
theorem pcuts_law {k : H} {c : List AV} {p : Pkt} (hc : IsP k c p) (w : Wf p.y) (n : Int) : Yld (call fsP exP 9 [.agg c, .int .i64 n] k) fun r => r.1 = .bool true := by
  refine yld_shut fun Q hQ => ?_
  have hQ' : ∀ k, Q (.bool true, k) := fun k => hQ _ rfl
  clear hQ
  rw [call_eq fsP exP (f := 9) (sf := sf9) rfl]
  obtain ⟨v1, v2, rfl, h1, h2, b1, b2⟩ := hc
  have hp : IsP (k ++ [Blk.row 25 [pktc p v1 v2] true true]) (pktc p v1 v2) p := IsP.app ⟨v1, v2, rfl, h1, h2, b1, b2⟩ _
  have hy : IsL (k ++ [Blk.row 25 [pktc p v1 v2] true true]) (ltc p.y v1 v2) p.y := IsL.app ⟨v1, v2, rfl, h1, h2, b1, b2⟩ _
  obtain ⟨q1, e1⟩ := p_Light hy
  have e3 := p_alive (k ++ [Blk.row 25 [pktc p v1 v2] true true])
  have e4 := p_Put hp
  have s1 := h1.cells
  have s2 := h2.cells
  cases q1
  · unfold pktc ltc at *
    simp [sf9, evB, recheck, wantsOp, AV.same, sames, eqCells, eqLeaf, toL_some, asc, fzero, fnone, List.map_cons, List.map_nil, resVals, resVal, resOf, partV, fillA, putCells, fillEls, strBin, minV, optNat, appendEls, elsOf, sliceSlV, sliceStrV, List.replicate, List.getElem?_append_left, List.getElem?_append_right, List.set_append_left, List.set_append_right, List.getElem?_set_self, List.getElem?_set_ne, e1, e3, hQ', s1.1, s1.2.1, s1.2.2, s2.1, s2.2.1, s2.2.2]
  cases hr : rightP p
  · rw [hr] at e4
    unfold pktc ltc at *
    simp [sf9, evB, recheck, wantsOp, AV.same, sames, eqCells, eqLeaf, toL_some, asc, fzero, fnone, List.map_cons, List.map_nil, resVals, resVal, resOf, partV, fillA, putCells, fillEls, strBin, minV, optNat, appendEls, elsOf, sliceSlV, sliceStrV, List.replicate, List.getElem?_append_left, List.getElem?_append_right, List.set_append_left, List.set_append_right, List.getElem?_set_self, List.getElem?_set_ne, e1, e3, e4, hQ', s1.1, s1.2.1, s1.2.2, s2.1, s2.2.1, s2.2.2]
  rw [hr, if_pos rfl] at e4
  have g := rightP_iff.1 hr
  have hlen := putPS_le g
  have hpos : 0 < (putPS p).length := by have := putPS_len p; omega
  obtain ⟨j, hj, hcut⟩ := cutP_at n (putPS p).length hpos (by omega)
  have hn1 := getPS_cut g w hj
  have hn2 := getPS_longer g w (t := [120]) (by simp)
  obtain ⟨c1, z1, e5, i1⟩ := GetPacket_call ((putPS p).take j) (by rw [List.length_take]; omega) (k ++ [Blk.row 25 [pktc p v1 v2] true true])
  rw [hn1] at e5
  obtain ⟨u1, u2, rfl, o1, o2, _, _⟩ := i1
  generalize (getPS ((putPS p).take j)).1 = l1 at *
  obtain ⟨c2, z2, e6, i2⟩ := GetPacket_call (putPS p ++ [120]) (by simp; omega) (k ++ [Blk.row 25 [pktc p v1 v2] true true] ++ z1 ++ [Blk.row 25 [pktc l1 u1 u2] true true])
  rw [hn2] at e6
  obtain ⟨x1, x2, rfl, p1, p2, _, _⟩ := i2
  generalize (getPS (putPS p ++ [120])).1 = l2 at *
  have t1 := o1.cells
  have t2 := o2.cells
  have y1 := p1.cells
  have y2 := p2.cells
  clear hn1 hn2 o1 o2 p1 p2
  generalize hP : putPS p = P at *
  have hp0 : ¬ P.length = 0 := by omega
  have hp1 : ¬ (P.length : Int) = 0 := by omega
  have hp2 : ¬ P = [] := fun h => by rw [h] at hpos; simp at hpos
  have hp3 : ((P.length : Int) == 0) = false := by simpa using hp1
  have hjl : (j : Int) ≤ (P.length : Nat) := by omega
  have hjn : j ≤ P.length := by omega
  have hadd : binV .add (.str P) (.str [120]) = some (.str (P ++ [120])) := add_str (by simp; omega)
  simp only [List.append_assoc, List.cons_append, List.nil_append] at e5 e6
  unfold pktc ltc at *
  simp [sf9, evB, recheck, wantsOp, AV.same, sames, eqCells, eqLeaf, toL_some, asc, fzero, fnone, List.map_cons, List.map_nil, resVals, resVal, resOf, partV, fillA, putCells, fillEls, strBin, minV, optNat, appendEls, elsOf, sliceSlV, sliceStrV, List.replicate, List.getElem?_append_left, List.getElem?_append_right, List.set_append_left, List.set_append_right, List.getElem?_set_self, List.getElem?_set_ne, e1, e3, e4, e5, e6, hcut, hp0, hp1, hp2, hp3, hjl, hjn, hadd, hQ', s1.1, s1.2.1, s1.2.2, s2.1, s2.2.1, s2.2.2, t1.1, t1.2.1, t1.2.2, t2.1, t2.2.1, t2.2.2, y1.1, y1.2.1, y1.2.2, y2.1, y2.2.1, y2.2.2]
end Go.Proofs.YtgnenipkebelfaaDoor.Lt
namespace Go.Proofs.YtgnenipkebelfaaDoor.Pure
open Go Go.Eng Lt
theorem PacketCuts : LawOk Tryd.prog 9 F.ss9 := by
  refine ⟨fsP, exP, fsP_ok, exP_ok, fun vs h _ hv => ?_⟩
  have hs : F.ss9 = [.st shP, .int .i64] := rfl
  rw [hs] at hv
  simp only [HasVs, HasV] at hv
  obtain ⟨_, _, rfl, ⟨c, rfl, h1⟩, _, _, rfl, h2, rfl⟩ := hv
  simp only [Has] at h2
  obtain ⟨b, e2, _⟩ := h2
  cases e2
  obtain ⟨p, hp, wp⟩ := has_packet h1
  exact pcuts_law hp wp b
end Go.Proofs.YtgnenipkebelfaaDoor.Pure
