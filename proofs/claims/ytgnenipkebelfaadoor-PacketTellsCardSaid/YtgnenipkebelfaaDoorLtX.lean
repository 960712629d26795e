/- Letters: the document's packets out of bytes (written by genlt9.py) -/
import Derived.Test.YtgnenipkebelfaaDoorLtW
set_option maxRecDepth 100000
set_option linter.unusedVariables false
set_option linter.unusedSimpArgs false
namespace Go.Proofs.YtgnenipkebelfaaDoor.Lt
open Go Go.Eng F Pk Bk

theorem chg3 (k : H) (a b c a' c' : Blk) (z w : H) : Chg (k ++ ([a, b, c] ++ z)) (k ++ ([a', b, c'] ++ (z ++ w))) [k.length, k.length + 2] := by
  have h := (((Chg.refl (k ++ ([a, b, c] ++ z)) [k.length, k.length + 2]).set (b := k.length) (y := a') (.inl (by simp))).set (b := k.length + 2) (y := c') (.inl (by simp))).more (k := w)
  have e : ((k ++ ([a, b, c] ++ z)).set k.length a').set (k.length + 2) c' ++ w = k ++ ([a', b, c'] ++ (z ++ w)) := by simp [hp_set0, hp_set, hp_set2, hp_set3]
  rwa [e] at h
set_option maxHeartbeats 32000000 in
theorem rGetPacket_call (b : List UInt8) (hb : b.length ≤ 281474976710656) (k : H) : ∃ c z, call fsP exP 23 [.str b] k = some (.tuple [.agg c, .bool (getPR b).2], k ++ z) ∧ IsP (k ++ z) c (getPR b).1 := by
  have rr : ∀ x : Rd, x.b.length ≤ 281474976710656 → call fsP exP 50 [.ptr (k.length + 1) 0 0] (k ++ [Blk.row 25 [[AV.int .i64 0, AV.int .i64 0, AV.int .i64 0, AV.int .i64 0, AV.int .i64 0, AV.int .i64 0, AV.int .i64 0, AV.int .i64 0, AV.int .i64 0, AV.str [], AV.str [], AV.str [], AV.int .i64 0, AV.int .i64 0, AV.str [], AV.nilslice, AV.bool false, AV.str [], AV.int .i64 0, AV.int .u64 0, AV.int .u64 0, AV.int .i64 0, AV.nilslice, AV.int .i64 0, AV.int .i64 0]] true true, Blk.row 2 [[.str x.b, .bool x.bad]] true true]) = some (.int .i64 x.num.1, k ++ [Blk.row 25 [[AV.int .i64 0, AV.int .i64 0, AV.int .i64 0, AV.int .i64 0, AV.int .i64 0, AV.int .i64 0, AV.int .i64 0, AV.int .i64 0, AV.int .i64 0, AV.str [], AV.str [], AV.str [], AV.int .i64 0, AV.int .i64 0, AV.str [], AV.nilslice, AV.bool false, AV.str [], AV.int .i64 0, AV.int .u64 0, AV.int .u64 0, AV.int .i64 0, AV.nilslice, AV.int .i64 0, AV.int .i64 0]] true true, Blk.row 2 [[.str x.num.2.b, .bool x.num.2.bad]] true true]) := by
    intro x hx
    rw [tblRP.rN]
    have hr : (k ++ [Blk.row 25 [[AV.int .i64 0, AV.int .i64 0, AV.int .i64 0, AV.int .i64 0, AV.int .i64 0, AV.int .i64 0, AV.int .i64 0, AV.int .i64 0, AV.int .i64 0, AV.str [], AV.str [], AV.str [], AV.int .i64 0, AV.int .i64 0, AV.str [], AV.nilslice, AV.bool false, AV.str [], AV.int .i64 0, AV.int .u64 0, AV.int .u64 0, AV.int .i64 0, AV.nilslice, AV.int .i64 0, AV.int .i64 0]] true true, Blk.row 2 [[.str x.b, .bool x.bad]] true true])[k.length + 1]? = some (Blk.row 2 [[.str x.b, .bool x.bad]] true true) := by simp
    simp only [exV, rdOf_eq hr, hx, if_true]
    simp [Rd.blk, hp_set2, hp_set, hp_set0]
  have hS : getPR b = if (hdr ⟨b, false⟩).2.bad = true then (zeroPkt, false) else
    if 0 < (hdr ⟨b, false⟩).1.seq then (if (getR (hdr ⟨b, false⟩).2.b).2 = false then (zeroPkt, false) else chkP ⟨(hdr ⟨b, false⟩).1.frm, (hdr ⟨b, false⟩).1.dst, (hdr ⟨b, false⟩).1.seq, (hdr ⟨b, false⟩).1.ack, (getR (hdr ⟨b, false⟩).2.b).1⟩ b) else
    if (hdr ⟨b, false⟩).2.b = [] then chkP (hdr ⟨b, false⟩).1 b else (zeroPkt, false) := rfl
  have hH : hdr ⟨b, false⟩ = (⟨((Rd.num ⟨b, false⟩).1 : Nat), ((Rd.num ⟨b, false⟩).2.num.1 : Nat), ((Rd.num ⟨b, false⟩).2.num.2.num.1 : Nat), ((Rd.num ⟨b, false⟩).2.num.2.num.2.num.1 : Nat), zeroLtr⟩, (Rd.num ⟨b, false⟩).2.num.2.num.2.num.2) := rfl
  rw [hS]
  clear hS
  have m1 := num_le ⟨b, false⟩
  have m2 := num_le (Rd.num ⟨b, false⟩).2
  have m3 := num_le (Rd.num ⟨b, false⟩).2.num.2
  have m4 := num_le (Rd.num ⟨b, false⟩).2.num.2.num.2
  have mb : (⟨b, false⟩ : Rd).b.length ≤ 281474976710656 := hb
  have e1 := rr ⟨b, false⟩ hb
  have e2 := rr (Rd.num ⟨b, false⟩).2 (by omega)
  have e3 := rr (Rd.num ⟨b, false⟩).2.num.2 (by omega)
  have e4 := rr (Rd.num ⟨b, false⟩).2.num.2.num.2 (by omega)
  have hb4 : (Rd.num ⟨b, false⟩).2.num.2.num.2.num.2.b.length ≤ 281474976710656 := by omega
  rw [hH]
  clear hH m1 m2 m3 m4 mb rr
  have n3 : (0 : Int) ≤ ((Rd.num ⟨b, false⟩).2.num.2.num.1 : Nat) := Int.natCast_nonneg _
  generalize (Rd.num ⟨b, false⟩).2.num.2.num.2.num = a4 at *
  generalize (Rd.num ⟨b, false⟩).2.num.2.num = a3 at *
  generalize (Rd.num ⟨b, false⟩).2.num = a2 at *
  generalize Rd.num ⟨b, false⟩ = a1 at *
  obtain ⟨i1, x1⟩ := a1
  obtain ⟨i2, x2⟩ := a2
  obtain ⟨i3, x3⟩ := a3
  obtain ⟨i4, y⟩ := a4
  simp only at e1 e2 e3 e4 hb4 n3 ⊢
  have bad : (∃ z, call fsP exP 23 [.str b] k = some (.tuple [.agg zpc, .bool false], k ++ z)) → ∃ c z, call fsP exP 23 [.str b] k = some (.tuple [.agg c, .bool false], k ++ z) ∧ IsP (k ++ z) c zeroPkt := by
    rintro ⟨z, h⟩
    exact ⟨zpc, z, h, zp_isP _⟩
  cases hbad : y.bad
  rotate_left
  · rw [hbad] at e4
    rw [if_pos rfl]
    refine bad ?_
    rw [call_eq fsP exP (f := 23) (sf := sf23) rfl]
    unfold zpc
    simp [sf23, evB, recheck, wantsOp, AV.same, sames, eqCells, eqLeaf, toL_some, asc, fzero, fnone, List.map_cons, List.map_nil, resVals, resVal, resOf, partV, fillA, putCells, fillEls, strBin, minV, optNat, appendEls, elsOf, sliceSlV, sliceStrV, List.replicate, List.getElem?_append_left, List.getElem?_append_right, List.set_append_left, List.set_append_right, List.getElem?_set_self, List.getElem?_set_ne, e1, e2, e3, e4]
  rw [hbad] at e4
  rw [if_neg (by decide)]
  by_cases hs : (0 : Int) < (i3 : Nat)
  · rw [if_pos hs]
    have hs2 : 0 < i3 := by omega
    have hd : decide ((0 : Int) < (i3 : Nat)) = true := by simpa using hs
    obtain ⟨c, z, e5, h5⟩ := p_rGet y.b hb4 (k ++ [Blk.row 25 [[AV.int .i64 0, AV.int .i64 0, AV.int .i64 0, AV.int .i64 0, AV.int .i64 0, AV.int .i64 0, AV.int .i64 0, AV.int .i64 0, AV.int .i64 0, AV.str [], AV.str [], AV.str [], AV.int .i64 0, AV.int .i64 0, AV.str [], AV.nilslice, AV.bool false, AV.str [], AV.int .i64 0, AV.int .u64 0, AV.int .u64 0, AV.int .i64 0, AV.nilslice, AV.int .i64 0, AV.int .i64 0]] true true, Blk.row 2 [[.str y.b, .bool false]] true true, Blk.row 25 [pktc ⟨(i1 : Nat), (i2 : Nat), (i3 : Nat), (i4 : Nat), zeroLtr⟩ .nilslice .nilslice] true true])
    obtain ⟨g, hg⟩ : ∃ g, g = getR y.b := ⟨_, rfl⟩
    rw [← hg] at e5 h5 ⊢
    have hgw : g.2 = true → Wf g.1 := fun h => by rw [hg] at h ⊢; exact (getR_ok h).2.1
    clear hg
    obtain ⟨l, ok⟩ := g
    simp only at e5 h5 hgw ⊢
    obtain ⟨v1, v2, rfl, o1, o2, f1, f2, _, l1, l2⟩ := h5
    have c1 := o1.rds.cells
    have c2 := o2.rds.cells
    cases ok
    · rw [if_pos rfl]
      refine bad ?_
      rw [call_eq fsP exP (f := 23) (sf := sf23) rfl]
      unfold zpc
      unfold pktc ltc at *
      simp only [zeroLtr, List.append_assoc, List.cons_append, List.nil_append] at *
      simp [sf23, evB, recheck, wantsOp, AV.same, sames, eqCells, eqLeaf, toL_some, asc, fzero, fnone, List.map_cons, List.map_nil, resVals, resVal, resOf, partV, fillA, putCells, fillEls, strBin, minV, optNat, appendEls, elsOf, sliceSlV, sliceStrV, List.replicate, List.getElem?_append_left, List.getElem?_append_right, List.set_append_left, List.set_append_right, List.getElem?_set_self, List.getElem?_set_ne, e1, e2, e3, e4, hs, hs2, hd, e5, c1.1, c1.2.1, c1.2.2, c2.1, c2.2.1, c2.2.2]
    · rw [if_neg (by decide)]
      have hw := hgw rfl
      obtain ⟨p, hp⟩ : ∃ p : Pkt, p = ⟨(i1 : Nat), (i2 : Nat), (i3 : Nat), (i4 : Nat), l⟩ := ⟨_, rfl⟩
      have hpe : p.frm = (i1 : Nat) ∧ p.dst = (i2 : Nat) ∧ p.seq = (i3 : Nat) ∧ p.ack = (i4 : Nat) ∧ p.y = l := by rw [hp]; exact ⟨rfl, rfl, rfl, rfl, rfl⟩
      have hpc : pktc ⟨(i1 : Nat), (i2 : Nat), (i3 : Nat), (i4 : Nat), l⟩ v1 v2 = pktc p v1 v2 := by rw [hp]
      rw [← hp]
      have hI : ∀ (A B : Blk) (w : H), IsP (k ++ ([A, Blk.row 2 [[.str y.b, .bool false]] true true, B] ++ (z ++ w))) (pktc p v1 v2) p := by
        intro A B w
        have hK := chg3 k (Blk.row 25 [[AV.int .i64 0, AV.int .i64 0, AV.int .i64 0, AV.int .i64 0, AV.int .i64 0, AV.int .i64 0, AV.int .i64 0, AV.int .i64 0, AV.int .i64 0, AV.str [], AV.str [], AV.str [], AV.int .i64 0, AV.int .i64 0, AV.str [], AV.nilslice, AV.bool false, AV.str [], AV.int .i64 0, AV.int .u64 0, AV.int .u64 0, AV.int .i64 0, AV.nilslice, AV.int .i64 0, AV.int .i64 0]] true true) (Blk.row 2 [[.str y.b, .bool false]] true true) (Blk.row 25 [pktc ⟨(i1 : Nat), (i2 : Nat), (i3 : Nat), (i4 : Nat), zeroLtr⟩ .nilslice .nilslice] true true) A B z w
        have hf : ∀ a, (k ++ [Blk.row 25 [[AV.int .i64 0, AV.int .i64 0, AV.int .i64 0, AV.int .i64 0, AV.int .i64 0, AV.int .i64 0, AV.int .i64 0, AV.int .i64 0, AV.int .i64 0, AV.str [], AV.str [], AV.str [], AV.int .i64 0, AV.int .i64 0, AV.str [], AV.nilslice, AV.bool false, AV.str [], AV.int .i64 0, AV.int .u64 0, AV.int .u64 0, AV.int .i64 0, AV.nilslice, AV.int .i64 0, AV.int .i64 0]] true true, Blk.row 2 [[.str y.b, .bool false]] true true, Blk.row 25 [pktc ⟨(i1 : Nat), (i2 : Nat), (i3 : Nat), (i4 : Nat), zeroLtr⟩ .nilslice .nilslice] true true]).length ≤ a → a ∉ [k.length, k.length + 2] := fun a h1 h2 => by simp at h1 h2; omega
        rw [List.append_assoc] at o1 o2
        refine ⟨v1, v2, rfl, ?_, ?_, ?_, ?_⟩
        · rw [hp]; exact (o1.keep hK fun a ha => hf a (f1 a ha)).rds
        · rw [hp]; exact (o2.keep hK fun a ha => hf a (f2 a ha)).rds
        · rw [hp]; show l.ti.length < _; omega
        · rw [hp]; show l.it.length < _; omega
      have eP := p_rPut (hI (Blk.row 25 [[AV.int .i64 0, AV.int .i64 0, AV.int .i64 0, AV.int .i64 0, AV.int .i64 0, AV.int .i64 0, AV.int .i64 0, AV.int .i64 0, AV.int .i64 0, AV.str [], AV.str [], AV.str [], AV.int .i64 0, AV.int .i64 0, AV.str [], AV.nilslice, AV.bool false, AV.str [], AV.int .i64 0, AV.int .u64 0, AV.int .u64 0, AV.int .i64 0, AV.nilslice, AV.int .i64 0, AV.int .i64 0]] true true) (Blk.row 25 [pktc p v1 v2] true true) [Blk.row 21 [ltc l v1 v2] true true]) (by rw [hp]; exact hw)
      have hI4 := hI (Blk.row 25 [pktc p v1 v2] true true) (Blk.row 25 [pktc p v1 v2] true true) [Blk.row 21 [ltc l v1 v2] true true]
      obtain ⟨q1, q2, q3, q4, q5⟩ := hpe
      clear hI hp o1 o2 f1 f2
      unfold chkP
      cases hrp : rightP p
      · rw [hrp] at eP
        refine bad ?_
        rw [call_eq fsP exP (f := 23) (sf := sf23) rfl]
        unfold zpc
        unfold pktc ltc at *
        simp only [zeroLtr, List.append_assoc, List.cons_append, List.nil_append, q1, q2, q3, q4, q5] at *
        simp [sf23, evB, recheck, wantsOp, AV.same, sames, eqCells, eqLeaf, toL_some, asc, fzero, fnone, List.map_cons, List.map_nil, resVals, resVal, resOf, partV, fillA, putCells, fillEls, strBin, minV, optNat, appendEls, elsOf, sliceSlV, sliceStrV, List.replicate, List.getElem?_append_left, List.getElem?_append_right, List.set_append_left, List.set_append_right, List.getElem?_set_self, List.getElem?_set_ne, e1, e2, e3, e4, hs, hs2, hd, e5, eP, c1.1, c1.2.1, c1.2.2, c2.1, c2.2.1, c2.2.2]
      · rw [hrp, if_pos rfl] at eP
        by_cases hq : putPS p = b
        · have hq' : (putPS p == b) = true := by simpa using hq
          refine ⟨pktc p v1 v2, _, ?_, by simpa [hq'] using hI4⟩
          clear hI4
          rw [call_eq fsP exP (f := 23) (sf := sf23) rfl]
          unfold pktc ltc at *
          simp only [zeroLtr, List.append_assoc, List.cons_append, List.nil_append, q1, q2, q3, q4, q5] at *
          simp [sf23, evB, recheck, wantsOp, AV.same, sames, eqCells, eqLeaf, toL_some, asc, fzero, fnone, List.map_cons, List.map_nil, resVals, resVal, resOf, partV, fillA, putCells, fillEls, strBin, minV, optNat, appendEls, elsOf, sliceSlV, sliceStrV, List.replicate, List.getElem?_append_left, List.getElem?_append_right, List.set_append_left, List.set_append_right, List.getElem?_set_self, List.getElem?_set_ne, e1, e2, e3, e4, hs, hs2, hd, e5, eP, hq, hq', c1.1, c1.2.1, c1.2.2, c2.1, c2.2.1, c2.2.2]
        · have hq' : (putPS p == b) = false := by simpa using hq
          rw [hq']
          refine bad ?_
          rw [call_eq fsP exP (f := 23) (sf := sf23) rfl]
          unfold zpc
          unfold pktc ltc at *
          simp only [zeroLtr, List.append_assoc, List.cons_append, List.nil_append, q1, q2, q3, q4, q5] at *
          simp [sf23, evB, recheck, wantsOp, AV.same, sames, eqCells, eqLeaf, toL_some, asc, fzero, fnone, List.map_cons, List.map_nil, resVals, resVal, resOf, partV, fillA, putCells, fillEls, strBin, minV, optNat, appendEls, elsOf, sliceSlV, sliceStrV, List.replicate, List.getElem?_append_left, List.getElem?_append_right, List.set_append_left, List.set_append_right, List.getElem?_set_self, List.getElem?_set_ne, e1, e2, e3, e4, hs, hs2, hd, e5, eP, hq, hq', c1.1, c1.2.1, c1.2.2, c2.1, c2.2.1, c2.2.2]
  · rw [if_neg hs]
    have hs2 : i3 = 0 := by omega
    subst hs2
    have hd : decide ((0 : Int) < ((0 : Nat) : Int)) = false := by decide
    by_cases hyb : y.b = []
    rotate_left
    · rw [if_neg hyb]
      have hyb' : (y.b == []) = false := by simpa using hyb
      refine bad ?_
      rw [call_eq fsP exP (f := 23) (sf := sf23) rfl]
      unfold zpc
      simp [sf23, evB, recheck, wantsOp, AV.same, sames, eqCells, eqLeaf, toL_some, asc, fzero, fnone, List.map_cons, List.map_nil, resVals, resVal, resOf, partV, fillA, putCells, fillEls, strBin, minV, optNat, appendEls, elsOf, sliceSlV, sliceStrV, List.replicate, List.getElem?_append_left, List.getElem?_append_right, List.set_append_left, List.set_append_right, List.getElem?_set_self, List.getElem?_set_ne, e1, e2, e3, e4, hs, hd, hyb, hyb']
    rw [if_pos hyb]
    obtain ⟨p, hp⟩ : ∃ p : Pkt, p = ⟨(i1 : Nat), (i2 : Nat), ((0 : Nat) : Int), (i4 : Nat), zeroLtr⟩ := ⟨_, rfl⟩
    have hpe : p.frm = (i1 : Nat) ∧ p.dst = (i2 : Nat) ∧ p.seq = 0 ∧ p.ack = (i4 : Nat) ∧ p.y = zeroLtr := by rw [hp]; exact ⟨rfl, rfl, rfl, rfl, rfl⟩
    rw [← hp]
    have eP := p_rPut (k := k ++ [Blk.row 25 [[AV.int .i64 0, AV.int .i64 0, AV.int .i64 0, AV.int .i64 0, AV.int .i64 0, AV.int .i64 0, AV.int .i64 0, AV.int .i64 0, AV.int .i64 0, AV.str [], AV.str [], AV.str [], AV.int .i64 0, AV.int .i64 0, AV.str [], AV.nilslice, AV.bool false, AV.str [], AV.int .i64 0, AV.int .u64 0, AV.int .u64 0, AV.int .i64 0, AV.nilslice, AV.int .i64 0, AV.int .i64 0]] true true, Blk.row 2 [[.str y.b, .bool false]] true true, Blk.row 25 [pktc p .nilslice .nilslice] true true]) (p_isP hpe.2.2.2.2) (by rw [hpe.2.2.2.2]; exact zero_wf)
    rw [hyb] at eP
    have hI4 := fun K => p_isP (k := K) hpe.2.2.2.2
    obtain ⟨q1, q2, q3, q4, q5⟩ := hpe
    clear hp
    unfold chkP
    cases hrp : rightP p
    · rw [hrp] at eP
      refine bad ?_
      rw [call_eq fsP exP (f := 23) (sf := sf23) rfl]
      unfold zpc
      unfold pktc ltc at *
      simp only [zeroLtr, List.append_assoc, List.cons_append, List.nil_append, q1, q2, q3, q4, q5] at *
      simp [sf23, evB, recheck, wantsOp, AV.same, sames, eqCells, eqLeaf, toL_some, asc, fzero, fnone, List.map_cons, List.map_nil, resVals, resVal, resOf, partV, fillA, putCells, fillEls, strBin, minV, optNat, appendEls, elsOf, sliceSlV, sliceStrV, List.replicate, List.getElem?_append_left, List.getElem?_append_right, List.set_append_left, List.set_append_right, List.getElem?_set_self, List.getElem?_set_ne, e1, e2, e3, e4, hs, hd, hyb, eP]
    · rw [hrp, if_pos rfl] at eP
      by_cases hq : putPS p = b
      · have hq' : (putPS p == b) = true := by simpa using hq
        refine ⟨pktc p .nilslice .nilslice, [Blk.row 25 [pktc p .nilslice .nilslice] true true, Blk.row 2 [[.str [], .bool false]] true true, Blk.row 25 [pktc p .nilslice .nilslice] true true], ?_, by simpa [hq'] using hI4 _⟩
        clear hI4
        rw [call_eq fsP exP (f := 23) (sf := sf23) rfl]
        unfold pktc ltc at *
        simp only [zeroLtr, List.append_assoc, List.cons_append, List.nil_append, q1, q2, q3, q4, q5] at *
        simp [sf23, evB, recheck, wantsOp, AV.same, sames, eqCells, eqLeaf, toL_some, asc, fzero, fnone, List.map_cons, List.map_nil, resVals, resVal, resOf, partV, fillA, putCells, fillEls, strBin, minV, optNat, appendEls, elsOf, sliceSlV, sliceStrV, List.replicate, List.getElem?_append_left, List.getElem?_append_right, List.set_append_left, List.set_append_right, List.getElem?_set_self, List.getElem?_set_ne, e1, e2, e3, e4, hs, hd, hyb, eP, hq, hq']
      · have hq' : (putPS p == b) = false := by simpa using hq
        rw [hq']
        refine bad ?_
        rw [call_eq fsP exP (f := 23) (sf := sf23) rfl]
        unfold zpc
        unfold pktc ltc at *
        simp only [zeroLtr, List.append_assoc, List.cons_append, List.nil_append, q1, q2, q3, q4, q5] at *
        simp [sf23, evB, recheck, wantsOp, AV.same, sames, eqCells, eqLeaf, toL_some, asc, fzero, fnone, List.map_cons, List.map_nil, resVals, resVal, resOf, partV, fillA, putCells, fillEls, strBin, minV, optNat, appendEls, elsOf, sliceSlV, sliceStrV, List.replicate, List.getElem?_append_left, List.getElem?_append_right, List.set_append_left, List.set_append_right, List.getElem?_set_self, List.getElem?_set_ne, e1, e2, e3, e4, hs, hd, hyb, eP, hq, hq']
end Go.Proofs.YtgnenipkebelfaaDoor.Lt
