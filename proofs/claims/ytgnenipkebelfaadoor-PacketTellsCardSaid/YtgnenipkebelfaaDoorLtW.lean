/- Letters: packets out of bytes (written by genlt9.py) -/
import Derived.Test.YtgnenipkebelfaaDoorLtV
set_option maxRecDepth 100000
set_option linter.unusedVariables false
set_option linter.unusedSimpArgs false
namespace Go.Proofs.YtgnenipkebelfaaDoor.Lt
open Go Go.Eng F Pk Bk

theorem zeroL_eq {l : Ltr} (h : zeroL l = true) : l = zeroLtr := by
  cases l
  simp only [zeroL, Bool.and_eq_true, decide_eq_true_eq, beq_iff_eq, Bool.not_eq_true', List.length_eq_zero_iff] at h
  unfold zeroLtr
  simp only [Ltr.mk.injEq]
  simp [h]
theorem zeroL_zero : zeroL zeroLtr = true := by decide
theorem zero_wf : Wf zeroLtr := by unfold Wf zeroLtr; simp
def zeroPkt : Pkt := ⟨0, 0, 0, 0, zeroLtr⟩
def zpc : List AV := [.int .i64 0, .int .i64 0, .int .i64 0, .int .i64 0, .int .i64 0, .int .i64 0, .int .i64 0, .int .i64 0, .int .i64 0, .str [], .str [], .str [], .int .i64 0, .int .i64 0, .str [], .nilslice, .bool false, .str [], .int .i64 0, .int .u64 0, .int .u64 0, .int .i64 0, .nilslice, .int .i64 0, .int .i64 0]
theorem zp_isP (k : H) : IsP k zpc zeroPkt := ⟨.nilslice, .nilslice, rfl, .inl ⟨rfl, rfl⟩, .inl ⟨rfl, rfl⟩, by simp [zeroPkt, zeroLtr], by simp [zeroPkt, zeroLtr]⟩
theorem p_isP {k : H} {p : Pkt} (h : p.y = zeroLtr) : IsP k (pktc p .nilslice .nilslice) p := ⟨.nilslice, .nilslice, rfl, .inl ⟨rfl, by rw [h]; rfl⟩, .inl ⟨rfl, by rw [h]; rfl⟩, by rw [h]; simp [zeroLtr], by rw [h]; simp [zeroLtr]⟩
/-- Four numbers. -/
def hdr (x : Rd) : Pkt × Rd := (⟨(x.num.1 : Nat), (x.num.2.num.1 : Nat), (x.num.2.num.2.num.1 : Nat), (x.num.2.num.2.num.2.num.1 : Nat), zeroLtr⟩, x.num.2.num.2.num.2.num.2)
theorem hdr_back {p : Pkt} (h1 : 0 ≤ p.frm ∧ p.frm ≤ 65535) (h2 : 0 ≤ p.dst ∧ p.dst ≤ 65535) (h3 : 0 ≤ p.seq ∧ p.seq ≤ 65535) (h4 : 0 ≤ p.ack ∧ p.ack ≤ 65535) (t : List UInt8) :
    hdr ⟨numS p.frm ++ (numS p.dst ++ (numS p.seq ++ (numS p.ack ++ t))), false⟩ = (⟨p.frm, p.dst, p.seq, p.ack, zeroLtr⟩, ⟨t, false⟩) := by
  unfold hdr
  simp only [num_backI h1, num_backI h2, num_backI h3, num_backI h4, Int.toNat_of_nonneg h1.1, Int.toNat_of_nonneg h2.1, Int.toNat_of_nonneg h3.1, Int.toNat_of_nonneg h4.1]
def readP (x : Rd) : Pkt × Rd := if 0 < (hdr x).1.seq ∧ (hdr x).2.bad = false then (⟨(hdr x).1.frm, (hdr x).1.dst, (hdr x).1.seq, (hdr x).1.ack, (readW Rd.list (hdr x).2).1⟩, (readW Rd.list (hdr x).2).2) else hdr x
/-- A packet out of bytes. -/
def getPS (b : List UInt8) : Pkt × Bool := if ((readP ⟨b, false⟩).2.fin && (rightP (readP ⟨b, false⟩).1 && (putPS (readP ⟨b, false⟩).1 == b))) = true then ((readP ⟨b, false⟩).1, true) else (zeroPkt, false)
def chkP (p : Pkt) (b : List UInt8) : Pkt × Bool := if (rightP p && (putPS p == b)) = true then (p, true) else (zeroPkt, false)
def getPR (b : List UInt8) : Pkt × Bool :=
  if (hdr ⟨b, false⟩).2.bad = true then (zeroPkt, false) else
  if 0 < (hdr ⟨b, false⟩).1.seq then (if (getR (hdr ⟨b, false⟩).2.b).2 = false then (zeroPkt, false) else chkP ⟨(hdr ⟨b, false⟩).1.frm, (hdr ⟨b, false⟩).1.dst, (hdr ⟨b, false⟩).1.seq, (hdr ⟨b, false⟩).1.ack, (getR (hdr ⟨b, false⟩).2.b).1⟩ b) else
  if (hdr ⟨b, false⟩).2.b = [] then chkP (hdr ⟨b, false⟩).1 b else (zeroPkt, false)
structure GoodP (p : Pkt) : Prop where
  frm : 0 ≤ p.frm ∧ p.frm ≤ 255
  dst : 0 ≤ p.dst ∧ p.dst ≤ 255
  seq : 0 ≤ p.seq ∧ p.seq ≤ 65535
  ack : 0 ≤ p.ack ∧ p.ack ≤ 65535
  y : if p.seq = 0 then p.y = zeroLtr else Good p.y
theorem rightP_iff {p : Pkt} : rightP p = true ↔ GoodP p := by
  unfold rightP
  simp only [Bool.and_eq_true, byteful_iff, numeral_iff]
  constructor
  · rintro ⟨⟨h1, h2⟩, ⟨h3, h4⟩, h5⟩
    refine ⟨h1, h2, h3, h4, ?_⟩
    split
    · rename_i h; rw [if_pos h] at h5; exact zeroL_eq h5
    · rename_i h; rw [if_neg h] at h5; exact right_iff.1 h5
  · rintro ⟨h1, h2, h3, h4, h5⟩
    refine ⟨⟨h1, h2⟩, ⟨h3, h4⟩, ?_⟩
    split
    · rename_i h; rw [if_pos h] at h5; rw [h5]; exact zeroL_zero
    · rename_i h; rw [if_neg h] at h5; exact right_iff.2 h5
theorem hdr_put {p : Pkt} (g : GoodP p) (t : List UInt8) : hdr ⟨putPS p ++ t, false⟩ = (⟨p.frm, p.dst, p.seq, p.ack, zeroLtr⟩, ⟨(if 0 < p.seq then putS p.y else []) ++ t, false⟩) := by
  have := hdr_back (p := p) ⟨g.frm.1, by have := g.frm; omega⟩ ⟨g.dst.1, by have := g.dst; omega⟩ g.seq g.ack ((if 0 < p.seq then putS p.y else []) ++ t)
  rw [← this]
  unfold putPS
  simp only [List.append_assoc]
theorem readP_back {p : Pkt} (g : GoodP p) (w : Wf p.y) (t : List UInt8) : readP ⟨putPS p ++ t, false⟩ = (p, ⟨t, false⟩) := by
  have hh := hdr_put g t
  unfold readP
  rw [hh]
  have hy := g.y
  by_cases hs : p.seq = 0
  · have hs2 : ¬ (0 : Int) < p.seq := by omega
    rw [if_pos hs] at hy
    simp only [hs2, false_and, if_false, List.nil_append]
    cases p; simp only at hy; subst hy; rfl
  · have hs2 : (0 : Int) < p.seq := by have := g.seq; omega
    rw [if_neg hs] at hy
    have hr := readW_back list_back hy w t
    simp only [hs2, true_and, if_true]
    rw [hr]
theorem getPS_back {p : Pkt} (g : GoodP p) (w : Wf p.y) : getPS (putPS p) = (p, true) := by
  have h := readP_back g w []
  rw [List.append_nil] at h
  unfold getPS
  rw [h]
  have : rightP p = true := rightP_iff.2 g
  simp [this, Rd.fin]
theorem getPR_back {p : Pkt} (g : GoodP p) (w : Wf p.y) : getPR (putPS p) = (p, true) := by
  have h := hdr_put g []
  rw [List.append_nil, List.append_nil] at h
  have hr : rightP p = true := rightP_iff.2 g
  unfold getPR
  rw [h]
  have hy := g.y
  by_cases hs : p.seq = 0
  · have hs2 : ¬ (0 : Int) < p.seq := by omega
    rw [if_pos hs] at hy
    have hp : (⟨p.frm, p.dst, p.seq, p.ack, zeroLtr⟩ : Pkt) = p := by rw [← hy]
    simp only [hs2, if_false, if_true, hp, chkP, hr]
    simp
  · have hs2 : (0 : Int) < p.seq := by have := g.seq; omega
    rw [if_neg hs] at hy
    have h2 := getR_back hy w
    simp only [hs2, if_true, h2, chkP, hr]
    simp
theorem hdr_y (x : Rd) : (hdr x).1.y = zeroLtr := rfl
theorem readP_wf (x : Rd) : Wf (readP x).1.y := by
  unfold readP
  split
  · exact readW_wf _ _
  · rw [hdr_y]; exact zero_wf
theorem getPS_ok {b : List UInt8} (h : (getPS b).2 = true) : GoodP (getPS b).1 ∧ Wf (getPS b).1.y ∧ putPS (getPS b).1 = b := by
  unfold getPS at h ⊢
  split at h
  · rename_i hc
    rw [if_pos hc]
    simp only [Bool.and_eq_true, beq_iff_eq] at hc
    exact ⟨rightP_iff.1 hc.2.1, readP_wf _, hc.2.2⟩
  · cases h
theorem chkP_ok {b : List UInt8} {p : Pkt} (w : Wf p.y) (h : (chkP p b).2 = true) : GoodP (chkP p b).1 ∧ Wf (chkP p b).1.y ∧ putPS (chkP p b).1 = b := by
  unfold chkP at h ⊢
  split at h
  · rename_i hc
    rw [if_pos hc]
    simp only [Bool.and_eq_true, beq_iff_eq] at hc
    exact ⟨rightP_iff.1 hc.1, w, hc.2⟩
  · cases h
theorem getPR_ok {b : List UInt8} (h : (getPR b).2 = true) : GoodP (getPR b).1 ∧ Wf (getPR b).1.y ∧ putPS (getPR b).1 = b := by
  unfold getPR at h ⊢
  split at h
  · cases h
  rename_i h1
  rw [if_neg h1]
  split at h
  · rename_i h2
    rw [if_pos h2]
    split at h
    · cases h
    rename_i h3
    rw [if_neg h3]
    exact chkP_ok (getR_ok (by simpa using h3)).2.1 h
  rename_i h2
  rw [if_neg h2]
  split at h
  · rename_i h3
    rw [if_pos h3]
    exact chkP_ok zero_wf h
  · cases h
theorem getPS_no {b : List UInt8} (h : (getPS b).2 = false) : getPS b = (zeroPkt, false) := by
  unfold getPS at h ⊢
  split at h
  · cases h
  · rename_i hc; rw [if_neg hc]
theorem chkP_no {b : List UInt8} {p : Pkt} (h : (chkP p b).2 = false) : chkP p b = (zeroPkt, false) := by
  unfold chkP at h ⊢
  split at h
  · cases h
  · rename_i hc; rw [if_neg hc]
theorem getPR_no {b : List UInt8} (h : (getPR b).2 = false) : getPR b = (zeroPkt, false) := by
  unfold getPR at h ⊢
  split at h
  · rename_i h1; rw [if_pos h1]
  rename_i h1
  rw [if_neg h1]
  split at h
  · rename_i h2
    rw [if_pos h2]
    split at h
    · rename_i h3; rw [if_pos h3]
    rename_i h3
    rw [if_neg h3]
    exact chkP_no h
  rename_i h2
  rw [if_neg h2]
  split at h
  · rename_i h3
    rw [if_pos h3]
    exact chkP_no h
  · rename_i h3; rw [if_neg h3]
theorem getPR_eq (b : List UInt8) : getPR b = getPS b := by
  cases h1 : (getPS b).2
  · cases h2 : (getPR b).2
    · rw [getPS_no h1, getPR_no h2]
    · obtain ⟨g, w, e⟩ := getPR_ok h2
      have := getPS_back g w
      rw [e] at this
      rw [this] at h1
      cases h1
  · obtain ⟨g, w, e⟩ := getPS_ok h1
    have h3 := getPR_back g w
    have h4 := getPS_back g w
    rw [e] at h3 h4
    rw [h3, h4]
set_option maxHeartbeats 32000000 in
theorem GetPacket_call (b : List UInt8) (hb : b.length ≤ 281474976710656) (k : H) : ∃ c z, call fsP exP 22 [.str b] k = some (.tuple [.agg c, .bool (getPS b).2], k ++ z) ∧ IsP (k ++ z) c (getPS b).1 := by
  have eF : call fsP exP 31 [.str b] (k ++ [Blk.row 25 [[AV.int .i64 0, AV.int .i64 0, AV.int .i64 0, AV.int .i64 0, AV.int .i64 0, AV.int .i64 0, AV.int .i64 0, AV.int .i64 0, AV.int .i64 0, AV.str [], AV.str [], AV.str [], AV.int .i64 0, AV.int .i64 0, AV.str [], AV.nilslice, AV.bool false, AV.str [], AV.int .i64 0, AV.int .u64 0, AV.int .u64 0, AV.int .i64 0, AV.nilslice, AV.int .i64 0, AV.int .i64 0]] true true]) = some (.ptr (k.length + 1) 0 0, k ++ [Blk.row 25 [[AV.int .i64 0, AV.int .i64 0, AV.int .i64 0, AV.int .i64 0, AV.int .i64 0, AV.int .i64 0, AV.int .i64 0, AV.int .i64 0, AV.int .i64 0, AV.str [], AV.str [], AV.str [], AV.int .i64 0, AV.int .i64 0, AV.str [], AV.nilslice, AV.bool false, AV.str [], AV.int .i64 0, AV.int .u64 0, AV.int .u64 0, AV.int .i64 0, AV.nilslice, AV.int .i64 0, AV.int .i64 0]] true true, Blk.row 2 [[.str b, .bool false]] true true]) := by
    rw [tblRP.F]; simp [exR, Rd.blk]
  have s0 : St (k ++ [Blk.row 25 [[AV.int .i64 0, AV.int .i64 0, AV.int .i64 0, AV.int .i64 0, AV.int .i64 0, AV.int .i64 0, AV.int .i64 0, AV.int .i64 0, AV.int .i64 0, AV.str [], AV.str [], AV.str [], AV.int .i64 0, AV.int .i64 0, AV.str [], AV.nilslice, AV.bool false, AV.str [], AV.int .i64 0, AV.int .u64 0, AV.int .u64 0, AV.int .i64 0, AV.nilslice, AV.int .i64 0, AV.int .i64 0]] true true, Blk.row 2 [[.str b, .bool false]] true true]) (k ++ [Blk.row 25 [[AV.int .i64 0, AV.int .i64 0, AV.int .i64 0, AV.int .i64 0, AV.int .i64 0, AV.int .i64 0, AV.int .i64 0, AV.int .i64 0, AV.int .i64 0, AV.str [], AV.str [], AV.str [], AV.int .i64 0, AV.int .i64 0, AV.str [], AV.nilslice, AV.bool false, AV.str [], AV.int .i64 0, AV.int .u64 0, AV.int .u64 0, AV.int .i64 0, AV.nilslice, AV.int .i64 0, AV.int .i64 0]] true true, Blk.row 2 [[.str b, .bool false]] true true, Blk.row 25 [[AV.int .i64 0, AV.int .i64 0, AV.int .i64 0, AV.int .i64 0, AV.int .i64 0, AV.int .i64 0, AV.int .i64 0, AV.int .i64 0, AV.int .i64 0, AV.str [], AV.str [], AV.str [], AV.int .i64 0, AV.int .i64 0, AV.str [], AV.nilslice, AV.bool false, AV.str [], AV.int .i64 0, AV.int .u64 0, AV.int .u64 0, AV.int .i64 0, AV.nilslice, AV.int .i64 0, AV.int .i64 0]] true true]) (k.length + 1) (k.length + 2) 25 ⟨b, false⟩ zpc [] := by
    refine ⟨by simp, by simp, by simp [Rd.blk], hb, by simp [zpc], ?_, by simp, List.Pairwise.nil⟩
    have := Chg.app (k ++ [Blk.row 25 [[AV.int .i64 0, AV.int .i64 0, AV.int .i64 0, AV.int .i64 0, AV.int .i64 0, AV.int .i64 0, AV.int .i64 0, AV.int .i64 0, AV.int .i64 0, AV.str [], AV.str [], AV.str [], AV.int .i64 0, AV.int .i64 0, AV.str [], AV.nilslice, AV.bool false, AV.str [], AV.int .i64 0, AV.int .u64 0, AV.int .u64 0, AV.int .i64 0, AV.nilslice, AV.int .i64 0, AV.int .i64 0]] true true, Blk.row 2 [[.str b, .bool false]] true true]) [Blk.row 25 [[AV.int .i64 0, AV.int .i64 0, AV.int .i64 0, AV.int .i64 0, AV.int .i64 0, AV.int .i64 0, AV.int .i64 0, AV.int .i64 0, AV.int .i64 0, AV.str [], AV.str [], AV.str [], AV.int .i64 0, AV.int .i64 0, AV.str [], AV.nilslice, AV.bool false, AV.str [], AV.int .i64 0, AV.int .u64 0, AV.int .u64 0, AV.int .i64 0, AV.nilslice, AV.int .i64 0, AV.int .i64 0]] true true] [k.length + 1]
    simpa using this
  obtain ⟨_, e1, K1, rfl, s1⟩ := nums_at tblRP (os := [0, 1, 2, 3]) s0 (by unfold zpc; simp) (by decide) (by simp)
  have g1 : numsGo [0, 1, 2, 3] zpc ⟨b, false⟩ = (pktc (hdr ⟨b, false⟩).1 .nilslice .nilslice, (hdr ⟨b, false⟩).2) := rfl
  rw [g1] at s1
  simp only [List.length_append, List.length_cons, List.length_nil, List.map_cons, List.map_nil, List.append_assoc, List.cons_append, List.nil_append, Nat.zero_add, Nat.reduceAdd] at e1
  have hS : getPS b = if ((readP ⟨b, false⟩).2.fin && (rightP (readP ⟨b, false⟩).1 && (putPS (readP ⟨b, false⟩).1 == b))) = true then ((readP ⟨b, false⟩).1, true) else (zeroPkt, false) := rfl
  rw [hS]
  clear hS g1
  have hR : readP ⟨b, false⟩ = if 0 < (hdr ⟨b, false⟩).1.seq ∧ (hdr ⟨b, false⟩).2.bad = false then (⟨(hdr ⟨b, false⟩).1.frm, (hdr ⟨b, false⟩).1.dst, (hdr ⟨b, false⟩).1.seq, (hdr ⟨b, false⟩).1.ack, (readW Rd.list (hdr ⟨b, false⟩).2).1⟩, (readW Rd.list (hdr ⟨b, false⟩).2).2) else hdr ⟨b, false⟩ := rfl
  have hy0 : (hdr ⟨b, false⟩).1.y = zeroLtr := rfl
  have hq0 : 0 ≤ (hdr ⟨b, false⟩).1.seq := Int.natCast_nonneg _
  rw [hR]
  clear hR
  generalize hdr ⟨b, false⟩ = hh at *
  obtain ⟨p0, y0⟩ := hh
  simp only at s1 hy0 hq0 ⊢
  have hk1 : Chg k K1 [] := (Chg.app k _ []).trans s1.chg (fun a h => .inr (by simp at h; omega))
  have hp1 : K1[k.length]? = some (Blk.row 25 [[AV.int .i64 0, AV.int .i64 0, AV.int .i64 0, AV.int .i64 0, AV.int .i64 0, AV.int .i64 0, AV.int .i64 0, AV.int .i64 0, AV.int .i64 0, AV.str [], AV.str [], AV.str [], AV.int .i64 0, AV.int .i64 0, AV.str [], AV.nilslice, AV.bool false, AV.str [], AV.int .i64 0, AV.int .u64 0, AV.int .u64 0, AV.int .i64 0, AV.nilslice, AV.int .i64 0, AV.int .i64 0]] true true) := s1.chg.2 _ _ (by simp) (by simp)
  have eB := s1.bad tblRP
  have bad : ∀ (K : H), (∃ z, K = k ++ z) → call fsP exP 22 [.str b] k = some (.tuple [.agg zpc, .bool false], K) → ∃ c z, call fsP exP 22 [.str b] k = some (.tuple [.agg c, .bool false], k ++ z) ∧ IsP (k ++ z) c zeroPkt := by
    rintro K ⟨z, rfl⟩ h
    exact ⟨zpc, z, h, zp_isP _⟩
  by_cases hc : 0 < p0.seq ∧ y0.bad = false
  · rw [if_pos hc]
    obtain ⟨hc1, hc2⟩ := hc
    obtain ⟨c, K2, e2, h2, hr2, _, hg2⟩ := read_call tblRP (k := K1) (r := k.length + 1) (x := y0) s1.hr s1.hx
    generalize (readW Rd.list y0).1 = l at *
    generalize (readW Rd.list y0).2 = y at *
    obtain ⟨v1, v2, rfl, o1, o2, f1, f2, f3, l1, l2⟩ := h2
    have hq2 : K2[k.length + 2]? = some (.row 25 [pktc p0 .nilslice .nilslice] true true) := hg2.2 _ _ (by simp) s1.hq
    have hp2 : K2[k.length]? = some (Blk.row 25 [[AV.int .i64 0, AV.int .i64 0, AV.int .i64 0, AV.int .i64 0, AV.int .i64 0, AV.int .i64 0, AV.int .i64 0, AV.int .i64 0, AV.int .i64 0, AV.str [], AV.str [], AV.str [], AV.int .i64 0, AV.int .i64 0, AV.str [], AV.nilslice, AV.bool false, AV.str [], AV.int .i64 0, AV.int .u64 0, AV.int .u64 0, AV.int .i64 0, AV.nilslice, AV.int .i64 0, AV.int .i64 0]] true true) := hg2.2 _ _ (by simp) hp1
    have hl1 : k.length + 2 < K1.length := (List.getElem?_eq_some_iff.1 s1.hq).1
    have hk2 : Chg k K2 [] := hk1.trans hg2 (fun a h => .inr (by simp at h; omega))
    rw [hc2] at eB
    obtain ⟨p, hp⟩ : ∃ p : Pkt, p = ⟨p0.frm, p0.dst, p0.seq, p0.ack, l⟩ := ⟨_, rfl⟩
    obtain ⟨K3, hK3⟩ : ∃ K, K = K2.set (k.length + 2) (.row 25 [pktc p v1 v2] true true) := ⟨_, rfl⟩
    have hg3 : Chg K2 K3 [k.length + 2] := by rw [hK3]; exact (Chg.refl _ _).set (.inl (by simp))
    have hk3 : Chg k K3 [] := hk2.trans hg3 (fun a h => .inr (by simp at h; omega))
    have hr3 : K3[k.length + 1]? = some y.blk := hg3.2 _ _ (by simp) hr2
    have hp3 : K3[k.length]? = some (Blk.row 25 [[AV.int .i64 0, AV.int .i64 0, AV.int .i64 0, AV.int .i64 0, AV.int .i64 0, AV.int .i64 0, AV.int .i64 0, AV.int .i64 0, AV.int .i64 0, AV.str [], AV.str [], AV.str [], AV.int .i64 0, AV.int .i64 0, AV.str [], AV.nilslice, AV.bool false, AV.str [], AV.int .i64 0, AV.int .u64 0, AV.int .u64 0, AV.int .i64 0, AV.nilslice, AV.int .i64 0, AV.int .i64 0]] true true) := hg3.2 _ _ (by simp) hp2
    have hq3 : K3[k.length + 2]? = some (.row 25 [pktc p v1 v2] true true) := by rw [hK3]; exact get_set_same hq2
    have hI : ∀ (K : H), Chg K2 K [k.length, k.length + 2] → IsP K (pktc p v1 v2) p := by
      intro K hK
      have hf : ∀ a, K1.length ≤ a → a ∉ [k.length, k.length + 2] := fun a h1 h2 => by simp at h2; omega
      refine ⟨v1, v2, rfl, ?_, ?_, ?_, ?_⟩
      · rw [hp]; exact (o1.keep hK fun a ha => hf a (f1 a ha)).rds
      · rw [hp]; exact (o2.keep hK fun a ha => hf a (f2 a ha)).rds
      · rw [hp]; show l.ti.length < _; omega
      · rw [hp]; show l.it.length < _; omega
    have eP := p_Put (hI K3 (by rw [hK3]; exact (Chg.refl _ _).set (.inl (by simp))))
    have hfin : ∀ row, ∃ z, K3.set k.length row = k ++ z := fun row => chg_app (hk3.set (.inr (Nat.le_refl _)))
    have hno := hfin (Blk.row 25 [[AV.int .i64 0, AV.int .i64 0, AV.int .i64 0, AV.int .i64 0, AV.int .i64 0, AV.int .i64 0, AV.int .i64 0, AV.int .i64 0, AV.int .i64 0, AV.str [], AV.str [], AV.str [], AV.int .i64 0, AV.int .i64 0, AV.str [], AV.nilslice, AV.bool false, AV.str [], AV.int .i64 0, AV.int .u64 0, AV.int .u64 0, AV.int .i64 0, AV.nilslice, AV.int .i64 0, AV.int .i64 0]] true true)
    have hyes := hfin (.row 25 [pktc p v1 v2] true true)
    have hI4 := hI (K3.set k.length (.row 25 [pktc p v1 v2] true true)) (by rw [hK3]; exact ((Chg.refl _ _).set (.inl (by simp))).set (.inl (by simp)))
    have eE : call fsP exP 33 [.ptr (k.length + 1) 0 0] K3 = some (.bool y.fin, K3) := by
      rw [tblRP.E]; simp only [exR, rdOf_eq hr3]
    have c1 := o1.rds.cells
    have c2 := o2.rds.cells
    have hK3' : K2.set (k.length + 2) (.row 25 [pktc ⟨p0.frm, p0.dst, p0.seq, p0.ack, l⟩ v1 v2] true true) = K3 := by rw [hK3, hp]
    have hd : decide ((0 : Int) < p0.seq) = true := by simpa using hc1
    have q1 := s1.hq
    rw [← hp]
    have hpe : p.frm = p0.frm ∧ p.dst = p0.dst ∧ p.seq = p0.seq ∧ p.ack = p0.ack ∧ p.y = l := by rw [hp]; exact ⟨rfl, rfl, rfl, rfl, rfl⟩
    clear hK3 hfin hI hk3 hk2 hg3 hg2 hk1 o1 o2 f1 f2 f3 s0 s1
    cases hf : y.fin
    · rw [hf] at eE
      refine bad _ hno ?_
      rw [call_eq fsP exP (f := 22) (sf := sf22) rfl]
      cases hrp : rightP p <;> rw [hrp] at eP <;> ((try unfold zpc); (unfold pktc ltc at *); (rw [hy0] at *); (simp only [zeroLtr] at *); simp [sf22, evB, recheck, wantsOp, AV.same, sames, eqCells, eqLeaf, toL_some, asc, fzero, fnone, List.map_cons, List.map_nil, resVals, resVal, resOf, partV, fillA, putCells, fillEls, strBin, minV, optNat, appendEls, elsOf, sliceSlV, sliceStrV, List.replicate, List.getElem?_append_left, List.getElem?_append_right, List.set_append_left, List.set_append_right, List.getElem?_set_self, List.getElem?_set_ne, c1.1, c1.2.1, c1.2.2, c2.1, c2.2.1, c2.2.2, eF, e1, q1, get_app q1, set_app q1, get_set_same q1, get_set_app q1, set_set_app q1, len_beq q1, beq_len q1, hc1, hd, eB, e2, hq2, get_app hq2, set_app hq2, get_set_same hq2, get_set_app hq2, set_set_app hq2, len_beq hq2, beq_len hq2, hK3', hq3, get_app hq3, set_app hq3, get_set_same hq3, get_set_app hq3, set_set_app hq3, len_beq hq3, beq_len hq3, hp3, get_app hp3, set_app hp3, get_set_same hp3, get_set_app hp3, set_set_app hp3, len_beq hp3, beq_len hp3, eP, eE])
    · rw [hf] at eE
      cases hrp : rightP p
      · rw [hrp] at eP
        refine bad _ hno ?_
        rw [call_eq fsP exP (f := 22) (sf := sf22) rfl]
        (try unfold zpc); (unfold pktc ltc at *); (rw [hy0] at *); (simp only [zeroLtr] at *); simp [sf22, evB, recheck, wantsOp, AV.same, sames, eqCells, eqLeaf, toL_some, asc, fzero, fnone, List.map_cons, List.map_nil, resVals, resVal, resOf, partV, fillA, putCells, fillEls, strBin, minV, optNat, appendEls, elsOf, sliceSlV, sliceStrV, List.replicate, List.getElem?_append_left, List.getElem?_append_right, List.set_append_left, List.set_append_right, List.getElem?_set_self, List.getElem?_set_ne, c1.1, c1.2.1, c1.2.2, c2.1, c2.2.1, c2.2.2, eF, e1, q1, get_app q1, set_app q1, get_set_same q1, get_set_app q1, set_set_app q1, len_beq q1, beq_len q1, hc1, hd, eB, e2, hq2, get_app hq2, set_app hq2, get_set_same hq2, get_set_app hq2, set_set_app hq2, len_beq hq2, beq_len hq2, hK3', hq3, get_app hq3, set_app hq3, get_set_same hq3, get_set_app hq3, set_set_app hq3, len_beq hq3, beq_len hq3, hp3, get_app hp3, set_app hp3, get_set_same hp3, get_set_app hp3, set_set_app hp3, len_beq hp3, beq_len hp3, eP, eE]
      · rw [hrp, if_pos rfl] at eP
        by_cases hq : putPS p = b
        · have hq' : (putPS p == b) = true := by simpa using hq
          obtain ⟨z, hz⟩ := hyes
          rw [hz] at hI4
          refine ⟨pktc p v1 v2, z, ?_, by simpa [hq'] using hI4⟩
          rw [← hz]
          clear hz hI4
          rw [call_eq fsP exP (f := 22) (sf := sf22) rfl]
          (try unfold zpc); (unfold pktc ltc at *); (rw [hy0] at *); (simp only [zeroLtr] at *); simp [sf22, evB, recheck, wantsOp, AV.same, sames, eqCells, eqLeaf, toL_some, asc, fzero, fnone, List.map_cons, List.map_nil, resVals, resVal, resOf, partV, fillA, putCells, fillEls, strBin, minV, optNat, appendEls, elsOf, sliceSlV, sliceStrV, List.replicate, List.getElem?_append_left, List.getElem?_append_right, List.set_append_left, List.set_append_right, List.getElem?_set_self, List.getElem?_set_ne, c1.1, c1.2.1, c1.2.2, c2.1, c2.2.1, c2.2.2, eF, e1, q1, get_app q1, set_app q1, get_set_same q1, get_set_app q1, set_set_app q1, len_beq q1, beq_len q1, hc1, hd, eB, e2, hq2, get_app hq2, set_app hq2, get_set_same hq2, get_set_app hq2, set_set_app hq2, len_beq hq2, beq_len hq2, hK3', hq3, get_app hq3, set_app hq3, get_set_same hq3, get_set_app hq3, set_set_app hq3, len_beq hq3, beq_len hq3, hp3, get_app hp3, set_app hp3, get_set_same hp3, get_set_app hp3, set_set_app hp3, len_beq hp3, beq_len hp3, eP, eE, hq']
        · have hq' : (putPS p == b) = false := by simpa using hq
          rw [hq']
          refine bad _ hno ?_
          rw [call_eq fsP exP (f := 22) (sf := sf22) rfl]
          (try unfold zpc); (unfold pktc ltc at *); (rw [hy0] at *); (simp only [zeroLtr] at *); simp [sf22, evB, recheck, wantsOp, AV.same, sames, eqCells, eqLeaf, toL_some, asc, fzero, fnone, List.map_cons, List.map_nil, resVals, resVal, resOf, partV, fillA, putCells, fillEls, strBin, minV, optNat, appendEls, elsOf, sliceSlV, sliceStrV, List.replicate, List.getElem?_append_left, List.getElem?_append_right, List.set_append_left, List.set_append_right, List.getElem?_set_self, List.getElem?_set_ne, c1.1, c1.2.1, c1.2.2, c2.1, c2.2.1, c2.2.2, eF, e1, q1, get_app q1, set_app q1, get_set_same q1, get_set_app q1, set_set_app q1, len_beq q1, beq_len q1, hc1, hd, eB, e2, hq2, get_app hq2, set_app hq2, get_set_same hq2, get_set_app hq2, set_set_app hq2, len_beq hq2, beq_len hq2, hK3', hq3, get_app hq3, set_app hq3, get_set_same hq3, get_set_app hq3, set_set_app hq3, len_beq hq3, beq_len hq3, hp3, get_app hp3, set_app hp3, get_set_same hp3, get_set_app hp3, set_set_app hp3, len_beq hp3, beq_len hp3, eP, eE, hq, hq']
  · rw [if_neg hc]
    have hr3 := s1.hr
    have q1 := s1.hq
    have hI : ∀ (K : H), IsP K (pktc p0 .nilslice .nilslice) p0 := fun K => p_isP hy0
    have eP := p_Put (hI K1)
    have hfin : ∀ row, ∃ z, K1.set k.length row = k ++ z := fun row => chg_app (hk1.set (.inr (Nat.le_refl _)))
    have hno := hfin (Blk.row 25 [[AV.int .i64 0, AV.int .i64 0, AV.int .i64 0, AV.int .i64 0, AV.int .i64 0, AV.int .i64 0, AV.int .i64 0, AV.int .i64 0, AV.int .i64 0, AV.str [], AV.str [], AV.str [], AV.int .i64 0, AV.int .i64 0, AV.str [], AV.nilslice, AV.bool false, AV.str [], AV.int .i64 0, AV.int .u64 0, AV.int .u64 0, AV.int .i64 0, AV.nilslice, AV.int .i64 0, AV.int .i64 0]] true true)
    have hyes := hfin (.row 25 [pktc p0 .nilslice .nilslice] true true)
    have hI4 := hI (K1.set k.length (.row 25 [pktc p0 .nilslice .nilslice] true true))
    have eE : call fsP exP 33 [.ptr (k.length + 1) 0 0] K1 = some (.bool y0.fin, K1) := by
      rw [tblRP.E]; simp only [exR, rdOf_eq hr3]
    clear hfin hI hk1 s0 s1
    by_cases hs : 0 < p0.seq
    · have hb1 : y0.bad = true := by
        cases h : y0.bad
        · exact absurd ⟨hs, h⟩ hc
        · rfl
      have hd : decide ((0 : Int) < p0.seq) = true := by simpa using hs
      rw [hb1] at eB
      cases hf : y0.fin
      · rw [hf] at eE
        refine bad _ hno ?_
        rw [call_eq fsP exP (f := 22) (sf := sf22) rfl]
        cases hrp : rightP p0 <;> rw [hrp] at eP <;> ((try unfold zpc); (unfold pktc ltc at *); (rw [hy0] at *); (simp only [zeroLtr] at *); simp [sf22, evB, recheck, wantsOp, AV.same, sames, eqCells, eqLeaf, toL_some, asc, fzero, fnone, List.map_cons, List.map_nil, resVals, resVal, resOf, partV, fillA, putCells, fillEls, strBin, minV, optNat, appendEls, elsOf, sliceSlV, sliceStrV, List.replicate, List.getElem?_append_left, List.getElem?_append_right, List.set_append_left, List.set_append_right, List.getElem?_set_self, List.getElem?_set_ne, eF, e1, q1, get_app q1, set_app q1, get_set_same q1, get_set_app q1, set_set_app q1, len_beq q1, beq_len q1, hd, eB, hp1, get_app hp1, set_app hp1, get_set_same hp1, get_set_app hp1, set_set_app hp1, len_beq hp1, beq_len hp1, eP, eE])
      · rw [hf] at eE
        cases hrp : rightP p0
        · rw [hrp] at eP
          refine bad _ hno ?_
          rw [call_eq fsP exP (f := 22) (sf := sf22) rfl]
          (try unfold zpc); (unfold pktc ltc at *); (rw [hy0] at *); (simp only [zeroLtr] at *); simp [sf22, evB, recheck, wantsOp, AV.same, sames, eqCells, eqLeaf, toL_some, asc, fzero, fnone, List.map_cons, List.map_nil, resVals, resVal, resOf, partV, fillA, putCells, fillEls, strBin, minV, optNat, appendEls, elsOf, sliceSlV, sliceStrV, List.replicate, List.getElem?_append_left, List.getElem?_append_right, List.set_append_left, List.set_append_right, List.getElem?_set_self, List.getElem?_set_ne, eF, e1, q1, get_app q1, set_app q1, get_set_same q1, get_set_app q1, set_set_app q1, len_beq q1, beq_len q1, hd, eB, hp1, get_app hp1, set_app hp1, get_set_same hp1, get_set_app hp1, set_set_app hp1, len_beq hp1, beq_len hp1, eP, eE]
        · rw [hrp, if_pos rfl] at eP
          by_cases hq : putPS p0 = b
          · have hq' : (putPS p0 == b) = true := by simpa using hq
            obtain ⟨z, hz⟩ := hyes
            rw [hz] at hI4
            refine ⟨pktc p0 .nilslice .nilslice, z, ?_, by simpa [hq'] using hI4⟩
            rw [← hz]
            clear hz hI4
            rw [call_eq fsP exP (f := 22) (sf := sf22) rfl]
            (try unfold zpc); (unfold pktc ltc at *); (rw [hy0] at *); (simp only [zeroLtr] at *); simp [sf22, evB, recheck, wantsOp, AV.same, sames, eqCells, eqLeaf, toL_some, asc, fzero, fnone, List.map_cons, List.map_nil, resVals, resVal, resOf, partV, fillA, putCells, fillEls, strBin, minV, optNat, appendEls, elsOf, sliceSlV, sliceStrV, List.replicate, List.getElem?_append_left, List.getElem?_append_right, List.set_append_left, List.set_append_right, List.getElem?_set_self, List.getElem?_set_ne, eF, e1, q1, get_app q1, set_app q1, get_set_same q1, get_set_app q1, set_set_app q1, len_beq q1, beq_len q1, hd, eB, hp1, get_app hp1, set_app hp1, get_set_same hp1, get_set_app hp1, set_set_app hp1, len_beq hp1, beq_len hp1, eP, eE, hq']
          · have hq' : (putPS p0 == b) = false := by simpa using hq
            rw [hq']
            refine bad _ hno ?_
            rw [call_eq fsP exP (f := 22) (sf := sf22) rfl]
            (try unfold zpc); (unfold pktc ltc at *); (rw [hy0] at *); (simp only [zeroLtr] at *); simp [sf22, evB, recheck, wantsOp, AV.same, sames, eqCells, eqLeaf, toL_some, asc, fzero, fnone, List.map_cons, List.map_nil, resVals, resVal, resOf, partV, fillA, putCells, fillEls, strBin, minV, optNat, appendEls, elsOf, sliceSlV, sliceStrV, List.replicate, List.getElem?_append_left, List.getElem?_append_right, List.set_append_left, List.set_append_right, List.getElem?_set_self, List.getElem?_set_ne, eF, e1, q1, get_app q1, set_app q1, get_set_same q1, get_set_app q1, set_set_app q1, len_beq q1, beq_len q1, hd, eB, hp1, get_app hp1, set_app hp1, get_set_same hp1, get_set_app hp1, set_set_app hp1, len_beq hp1, beq_len hp1, eP, eE, hq, hq']
    · have hd : decide ((0 : Int) < p0.seq) = false := by simpa using hs
      cases hf : y0.fin
      · rw [hf] at eE
        refine bad _ hno ?_
        rw [call_eq fsP exP (f := 22) (sf := sf22) rfl]
        cases hrp : rightP p0 <;> rw [hrp] at eP <;> ((try unfold zpc); (unfold pktc ltc at *); (rw [hy0] at *); (simp only [zeroLtr] at *); simp [sf22, evB, recheck, wantsOp, AV.same, sames, eqCells, eqLeaf, toL_some, asc, fzero, fnone, List.map_cons, List.map_nil, resVals, resVal, resOf, partV, fillA, putCells, fillEls, strBin, minV, optNat, appendEls, elsOf, sliceSlV, sliceStrV, List.replicate, List.getElem?_append_left, List.getElem?_append_right, List.set_append_left, List.set_append_right, List.getElem?_set_self, List.getElem?_set_ne, eF, e1, q1, get_app q1, set_app q1, get_set_same q1, get_set_app q1, set_set_app q1, len_beq q1, beq_len q1, hd, eB, hp1, get_app hp1, set_app hp1, get_set_same hp1, get_set_app hp1, set_set_app hp1, len_beq hp1, beq_len hp1, eP, eE, hs])
      · rw [hf] at eE
        cases hrp : rightP p0
        · rw [hrp] at eP
          refine bad _ hno ?_
          rw [call_eq fsP exP (f := 22) (sf := sf22) rfl]
          (try unfold zpc); (unfold pktc ltc at *); (rw [hy0] at *); (simp only [zeroLtr] at *); simp [sf22, evB, recheck, wantsOp, AV.same, sames, eqCells, eqLeaf, toL_some, asc, fzero, fnone, List.map_cons, List.map_nil, resVals, resVal, resOf, partV, fillA, putCells, fillEls, strBin, minV, optNat, appendEls, elsOf, sliceSlV, sliceStrV, List.replicate, List.getElem?_append_left, List.getElem?_append_right, List.set_append_left, List.set_append_right, List.getElem?_set_self, List.getElem?_set_ne, eF, e1, q1, get_app q1, set_app q1, get_set_same q1, get_set_app q1, set_set_app q1, len_beq q1, beq_len q1, hd, eB, hp1, get_app hp1, set_app hp1, get_set_same hp1, get_set_app hp1, set_set_app hp1, len_beq hp1, beq_len hp1, eP, eE, hs]
        · rw [hrp, if_pos rfl] at eP
          by_cases hq : putPS p0 = b
          · have hq' : (putPS p0 == b) = true := by simpa using hq
            obtain ⟨z, hz⟩ := hyes
            rw [hz] at hI4
            refine ⟨pktc p0 .nilslice .nilslice, z, ?_, by simpa [hq'] using hI4⟩
            rw [← hz]
            clear hz hI4
            rw [call_eq fsP exP (f := 22) (sf := sf22) rfl]
            (try unfold zpc); (unfold pktc ltc at *); (rw [hy0] at *); (simp only [zeroLtr] at *); simp [sf22, evB, recheck, wantsOp, AV.same, sames, eqCells, eqLeaf, toL_some, asc, fzero, fnone, List.map_cons, List.map_nil, resVals, resVal, resOf, partV, fillA, putCells, fillEls, strBin, minV, optNat, appendEls, elsOf, sliceSlV, sliceStrV, List.replicate, List.getElem?_append_left, List.getElem?_append_right, List.set_append_left, List.set_append_right, List.getElem?_set_self, List.getElem?_set_ne, eF, e1, q1, get_app q1, set_app q1, get_set_same q1, get_set_app q1, set_set_app q1, len_beq q1, beq_len q1, hd, eB, hp1, get_app hp1, set_app hp1, get_set_same hp1, get_set_app hp1, set_set_app hp1, len_beq hp1, beq_len hp1, eP, eE, hs, hq']
          · have hq' : (putPS p0 == b) = false := by simpa using hq
            rw [hq']
            refine bad _ hno ?_
            rw [call_eq fsP exP (f := 22) (sf := sf22) rfl]
            (try unfold zpc); (unfold pktc ltc at *); (rw [hy0] at *); (simp only [zeroLtr] at *); simp [sf22, evB, recheck, wantsOp, AV.same, sames, eqCells, eqLeaf, toL_some, asc, fzero, fnone, List.map_cons, List.map_nil, resVals, resVal, resOf, partV, fillA, putCells, fillEls, strBin, minV, optNat, appendEls, elsOf, sliceSlV, sliceStrV, List.replicate, List.getElem?_append_left, List.getElem?_append_right, List.set_append_left, List.set_append_right, List.getElem?_set_self, List.getElem?_set_ne, eF, e1, q1, get_app q1, set_app q1, get_set_same q1, get_set_app q1, set_set_app q1, len_beq q1, beq_len q1, hd, eB, hp1, get_app hp1, set_app hp1, get_set_same hp1, get_set_app hp1, set_set_app hp1, len_beq hp1, beq_len hp1, eP, eE, hs, hq, hq']
end Go.Proofs.YtgnenipkebelfaaDoor.Lt
