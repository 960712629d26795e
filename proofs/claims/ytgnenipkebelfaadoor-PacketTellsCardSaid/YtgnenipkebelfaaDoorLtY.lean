/- Letters: packets, plain; a packet that is handed in. -/
import Derived.Test.YtgnenipkebelfaaDoorLtX
set_option maxRecDepth 100000
set_option linter.unusedVariables false
set_option linter.unusedSimpArgs false
namespace Go.Proofs.YtgnenipkebelfaaDoor.Lt
open Go Go.Eng F Pk Bk

theorem putPS_len (p : Pkt) : (putPS p).length = 8 + (if 0 < p.seq then putS p.y else []).length := by
  unfold putPS
  simp only [List.length_append, numS_len]
  omega
theorem putP_inj {p q : Pkt} (gp : GoodP p) (wp : Wf p.y) (gq : GoodP q) (wq : Wf q.y) {t u : List UInt8} (h : putPS p ++ t = putPS q ++ u) : p = q ∧ t = u := by
  have h1 := readP_back gp wp t
  have h2 := readP_back gq wq u
  rw [h, h2] at h1
  cases h1
  exact ⟨rfl, rfl⟩
theorem putPS_le {p : Pkt} (g : GoodP p) : (putPS p).length ≤ 100008 := by
  have hl := putPS_len p
  have gy := g.y
  by_cases hs : p.seq = 0
  · have hs2 : ¬ (0 : Int) < p.seq := by omega
    rw [if_neg hs2] at hl
    simp at hl
    omega
  · have hs2 : (0 : Int) < p.seq := by have := g.seq; omega
    rw [if_pos hs2] at hl
    rw [if_neg hs] at gy
    have := putS_len gy
    omega
theorem getPS_cut {p : Pkt} (g : GoodP p) (w : Wf p.y) {j : Nat} (hj : j < (putPS p).length) : (getPS ((putPS p).take j)).2 = false := by
  cases h : (getPS ((putPS p).take j)).2
  · rfl
  · obtain ⟨g2, w2, e⟩ := getPS_ok h
    have h3 : putPS (getPS ((putPS p).take j)).1 ++ (putPS p).drop j = putPS p ++ [] := by rw [e, List.take_append_drop, List.append_nil]
    have := (putP_inj g2 w2 g w h3).2
    have h4 := congrArg List.length this
    simp at h4
    omega
theorem getPS_longer {p : Pkt} (g : GoodP p) (w : Wf p.y) {t : List UInt8} (ht : t ≠ []) : (getPS (putPS p ++ t)).2 = false := by
  cases h : (getPS (putPS p ++ t)).2
  · rfl
  · obtain ⟨g2, w2, e⟩ := getPS_ok h
    have h3 : putPS (getPS (putPS p ++ t)).1 ++ [] = putPS p ++ t := by rw [e, List.append_nil]
    exact absurd (putP_inj g2 w2 g w h3).2.symm ht
def shP : List Sh := [.int .i64, .int .i64, .int .i64, .int .i64, .st shL]
theorem has_packet {h : H} {cs : List AV} (hh : HasF h shP cs) : ∃ p, IsP h cs p ∧ Wf p.y := by
  unfold shP at hh
  simp only [HasF, Has] at hh
  obtain ⟨_, _, rfl, ⟨frm, rfl, _⟩, _, _, rfl, ⟨dst, rfl, _⟩, _, _, rfl, ⟨seq, rfl, _⟩, _, _, rfl, ⟨ack, rfl, _⟩, c, _, rfl, hl, rfl⟩ := hh
  obtain ⟨l, ⟨v1, v2, rfl, h1, h2, b1, b2⟩, wl⟩ := has_letter hl
  exact ⟨⟨frm, dst, seq, ack, l⟩, ⟨v1, v2, by simp [pktc], h1, h2, b1, b2⟩, wl⟩
end Go.Proofs.YtgnenipkebelfaaDoor.Lt
