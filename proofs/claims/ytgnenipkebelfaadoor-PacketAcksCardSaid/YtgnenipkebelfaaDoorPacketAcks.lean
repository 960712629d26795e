/- Letters: PacketAcks. -/
import Derived.Test.YtgnenipkebelfaaDoorLtY
set_option maxRecDepth 100000
set_option linter.unusedVariables false
set_option linter.unusedSimpArgs false
namespace Go.Proofs.YtgnenipkebelfaaDoor.Lt
open Go Go.Eng F Pk Bk

set_option maxHeartbeats 16000000 in
theorem acks_law {k : H} {c : List AV} {p : Pkt} (hc : IsP k c p) : Yld (call fsP exP 7 [.agg c] k) fun r => r.1 = .bool true := by
  refine yld_shut fun Q hQ => ?_
  have hQ' : ∀ k, Q (.bool true, k) := fun k => hQ _ rfl
  clear hQ
  rw [call_eq fsP exP (f := 7) (sf := sf7) rfl]
  obtain ⟨v1, v2, rfl, h1, h2, b1, b2⟩ := hc
  have hp : IsP (k ++ [Blk.row 25 [pktc p v1 v2] true true]) (pktc p v1 v2) p := IsP.app ⟨v1, v2, rfl, h1, h2, b1, b2⟩ _
  have hy : IsL (k ++ [Blk.row 25 [pktc p v1 v2] true true]) (ltc p.y v1 v2) p.y := IsL.app ⟨v1, v2, rfl, h1, h2, b1, b2⟩ _
  obtain ⟨q1, e1⟩ := p_Light hy
  have e3 := p_alive (k ++ [Blk.row 25 [pktc p v1 v2] true true])
  have e4 := p_Put hp
  have e5 := p_letter hy
  have s1 := h1.cells
  have s2 := h2.cells
  cases q1
  · unfold pktc ltc at *
    simp [sf7, evB, recheck, wantsOp, AV.same, sames, eqCells, eqLeaf, toL_some, asc, fzero, fnone, List.map_cons, List.map_nil, resVals, resVal, resOf, partV, fillA, putCells, fillEls, strBin, minV, optNat, appendEls, elsOf, sliceSlV, sliceStrV, List.replicate, List.getElem?_append_left, List.getElem?_append_right, List.set_append_left, List.set_append_right, List.getElem?_set_self, List.getElem?_set_ne, e1, e3, hQ', s1.1, s1.2.1, s1.2.2, s2.1, s2.2.1, s2.2.2]
  cases hr : rightP p
  · rw [hr] at e4
    unfold pktc ltc at *
    simp [sf7, evB, recheck, wantsOp, AV.same, sames, eqCells, eqLeaf, toL_some, asc, fzero, fnone, List.map_cons, List.map_nil, resVals, resVal, resOf, partV, fillA, putCells, fillEls, strBin, minV, optNat, appendEls, elsOf, sliceSlV, sliceStrV, List.replicate, List.getElem?_append_left, List.getElem?_append_right, List.set_append_left, List.set_append_right, List.getElem?_set_self, List.getElem?_set_ne, e1, e3, e4, hQ', s1.1, s1.2.1, s1.2.2, s2.1, s2.2.1, s2.2.2]
  rw [hr, if_pos rfl] at e4
  have g := rightP_iff.1 hr
  have gy := g.y
  have hlen := putPS_len p
  by_cases hs : p.seq = 0
  · have hs' : (p.seq == 0) = true := by simpa using hs
    have hs2 : ¬ (0 : Int) < p.seq := by omega
    rw [if_neg hs2] at hlen
    have h8 : (putPS p).length = 8 := by simpa using hlen
    have h8i : ((putPS p).length : Int) = 8 := by omega
    unfold pktc ltc at *
    simp [sf7, evB, recheck, wantsOp, AV.same, sames, eqCells, eqLeaf, toL_some, asc, fzero, fnone, List.map_cons, List.map_nil, resVals, resVal, resOf, partV, fillA, putCells, fillEls, strBin, minV, optNat, appendEls, elsOf, sliceSlV, sliceStrV, List.replicate, List.getElem?_append_left, List.getElem?_append_right, List.set_append_left, List.set_append_right, List.getElem?_set_self, List.getElem?_set_ne, e1, e3, e4, e5, hs', h8, h8i, hQ', s1.1, s1.2.1, s1.2.2, s2.1, s2.2.1, s2.2.2]
  · have hs' : (p.seq == 0) = false := by simpa using hs
    have hs2 : (0 : Int) < p.seq := by have := g.seq; omega
    rw [if_pos hs2] at hlen
    rw [if_neg hs] at gy
    have hry : right p.y = true := right_iff.2 gy
    rw [hry, if_pos rfl] at e5
    have hl := putS_len gy
    have hd : (putPS p).drop 8 = putS p.y := by
      unfold putPS
      rw [if_pos hs2]
      rfl
    have hlt : 8 ≤ (putPS p).length := by omega
    have hlti : (8 : Int) ≤ ((putPS p).length : Nat) := by omega
    have hw : IntKind.i64.wrap (8 + ((putS p.y).length : Nat)) = ((putPS p).length : Nat) := by rw [wrap_i64 (by omega) (by omega)]; omega
    have ht : (putPS p).drop 8 = (putPS p).drop 8 := rfl
    have htake : (putS p.y).take ((putPS p).length - 8) = putS p.y := List.take_of_length_le (by omega)
    generalize putPS p = P at *
    generalize putS p.y = Y at *
    unfold pktc ltc at *
    simp [sf7, evB, recheck, wantsOp, AV.same, sames, eqCells, eqLeaf, toL_some, asc, fzero, fnone, List.map_cons, List.map_nil, resVals, resVal, resOf, partV, fillA, putCells, fillEls, strBin, minV, optNat, appendEls, elsOf, sliceSlV, sliceStrV, List.replicate, List.getElem?_append_left, List.getElem?_append_right, List.set_append_left, List.set_append_right, List.getElem?_set_self, List.getElem?_set_ne, e1, e3, e4, e5, hs', hw, hlt, hlti, hd, htake, hQ', s1.1, s1.2.1, s1.2.2, s2.1, s2.2.1, s2.2.2]
end Go.Proofs.YtgnenipkebelfaaDoor.Lt
namespace Go.Proofs.YtgnenipkebelfaaDoor.Pure
open Go Go.Eng Lt
theorem PacketAcks : LawOk Tryd.prog 7 F.ss7 := by
  refine ⟨fsP, exP, fsP_ok, exP_ok, fun vs h _ hv => ?_⟩
  have hs : F.ss7 = [.st shP] := rfl
  rw [hs] at hv
  simp only [HasVs, HasV] at hv
  obtain ⟨_, _, rfl, ⟨c, rfl, h1⟩, rfl⟩ := hv
  obtain ⟨p, hp, wp⟩ := has_packet h1
  exact acks_law hp
end Go.Proofs.YtgnenipkebelfaaDoor.Pure
