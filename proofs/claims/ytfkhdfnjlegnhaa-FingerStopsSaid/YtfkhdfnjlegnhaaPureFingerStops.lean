/- FingerStops: from where nothing lies between there is no hop; a way from what is no seat is none. For every input. -/
import Derived.Test.YtfkhdfnjlegnhaaPx26
import Derived.Test.YtfkhdfnjlegnhaaFingerL
namespace Go.Proofs.Ytfkhdfnjlegnhaa.Pure
open Go.RowKit Go.Proofs.Ytfkhdfnjlegnhaa.P Go.Proofs.YtfkhdfnjlegnhaaW.PrintWords Go.Proofs.YtfkhdfnjlegnhaaW.PrintLast Go.Proofs.YtfkhdfnjlegnhaaW.PrintMore
set_option linter.unusedVariables false
set_option linter.unusedSimpArgs false

def btw (me t : Int) (x : Int) : Bool := decide (x ≠ me ∧ far me x ≤ far me t)

theorem stops_l (me t x7 : Int) (S : List Int) (x8 : Bool) (hS : S.length ≤ 1000) (d : Nat) : ∀ (k : Nat) (i : Int) (b m : Bool), 0 ≤ i → (S.length : Int) - i = d → d < k →
    rosarylaw12_FingerStops.l0 (k + 4000) me t S x7 x8 b m S (S.length : Int) i = rosarylaw12_FingerStops.l0 (k - d + 4000) me t S x7 x8 (b || (S.drop i.toNat).any (btw me t)) (m || (S.drop i.toNat).any (· == me)) S (S.length : Int) (S.length : Int) := by
  induction d with
  | zero =>
    intro k i b m h0 hd hk
    rw [show i = (S.length : Int) by omega, List.drop_eq_nil_of_le (by omega)]
    simp
  | succ d ih =>
    intro k i b m h0 hd hk
    obtain ⟨k, rfl⟩ : ∃ m, k = m + 1 := ⟨k - 1, by omega⟩
    have hlt : i < (S.length : Int) := by omega
    have hn := ih k (i + 1)
    rw [show k + 1 - (d + 1) = k - d by omega, drop_rd S i h0 hlt, List.any_cons, List.any_cons, ← Bool.or_assoc, ← Bool.or_assoc, ← hn _ _ (by omega) (by omega) (by omega), show k + 1 + 4000 = (k + 4000) + 1 by omega]
    generalize k + 4000 = q
    conv => lhs; simp only [rosarylaw12_FingerStops.l0, far_wrap]
    rw [if_pos hlt, if_pos h0, if_pos hlt, w64 (by omega) (by omega)]
    unfold btw
    by_cases c : rd S i = me
    · cases b <;> cases m <;> simp [c]
    · cases b <;> cases m <;> simp [c]

theorem FingerStops : rosarylaw12_FingerStops.Pure := by
  intro me t S hme ht hl _ h64
  refine ⟨9002, ?_⟩
  unfold rosarylaw12_FingerStops.f
  have h0 : rosarylaw12_FingerStops.j0 9002 me t S true = some true := by
    simp only [rosarylaw12_FingerStops.j0, if_true]; rw [alive_eq _ (by omega)]; rfl
  by_cases h : (S.length : Int) > 40
  · rw [if_pos h, h0]
  rw [if_neg h, alive_eq _ (by omega), Option.bind_some]
  simp only [rosarylaw12_FingerStops.j0, Bool.not_true, Bool.false_eq_true, if_false]
  have hA : ∀ x ∈ S, In64 x := fun x hx => wf_u64 (h64 x hx)
  obtain ⟨s1, s2⟩ := hop_spec me t S
  rw [hop_eq me t S (by unfold maxLen; omega) 9001 (by omega), Option.bind_some]
  have hs := stops_l me t (hop me t S).1 S (decide ((hop me t S).2 > 0)) (by omega) S.length 5001 0 false false (by omega) (by omega) (by omega)
  simp only at hs ⊢
  rw [hs]
  obtain ⟨k, hk⟩ : ∃ k, 5001 - S.length + 4000 = k + 1 := ⟨5001 - S.length + 3999, by omega⟩
  rw [hk]
  simp only [rosarylaw12_FingerStops.l0]
  rw [if_neg (by omega)]
  have e0 : S.drop (0 : Int).toNat = S := rfl
  rw [e0]
  have hb : (false || S.any (btw me t)) = decide ((hop me t S).2 > 0) := by
    rw [Bool.false_or, Bool.eq_iff_iff, List.any_eq_true, decide_eq_true_eq]
    constructor
    · rintro ⟨x, hx, hb⟩
      simp only [btw, decide_eq_true_eq] at hb
      refine s1.2 ⟨x, hx, ?_, hb.2⟩
      rcases Int.lt_or_eq_of_le (far_nonneg me x) with g | g
      · exact g
      · exact absurd (far_zero (wf_u64 hme) (hA x hx) g.symm).symm hb.1
    · intro hp
      obtain ⟨x, hx, g1, g2⟩ := s1.1 hp
      refine ⟨x, hx, ?_⟩
      simp only [btw, decide_eq_true_eq]
      refine ⟨?_, g2⟩
      rintro rfl
      rw [far_self] at g1
      omega
  have hm : (false || S.any (· == me)) = decide (me ∈ S) := by
    rw [Bool.false_or, Bool.eq_iff_iff, List.any_eq_true, decide_eq_true_eq]
    constructor
    · rintro ⟨x, hx, hb⟩
      have : x = me := by simpa using hb
      exact this ▸ hx
    · intro hx; exact ⟨me, hx, by simp⟩
  rw [hb, hm]
  have hway : ∃ w, finger_Way.f k me t S = some (w, decide (me ∈ S)) := by
    by_cases hmem : me ∈ S
    · obtain ⟨e, w, _, _, _, _, _, w5⟩ := way_eq (t := t) (S := S) (by omega) hA hmem
      exact ⟨w, by rw [w5 k (by omega), decide_eq_true hmem]⟩
    · exact ⟨[], by rw [way_none (by omega) hmem k (by omega), decide_eq_false hmem]⟩
  obtain ⟨w, hw⟩ := hway
  rw [hw]
  simp only [Option.bind_some, beq_self_eq_true, if_true, far_wrap]
  by_cases hp : (hop me t S).2 > 0
  · obtain ⟨g1, g2, g3, g4⟩ := s2 hp
    rw [decide_eq_true hp, if_pos rfl, if_pos g3]
    have : (hop me t S).1 ≠ me := by intro h; rw [h, far_self] at g2; omega
    simpa using this
  · rw [decide_eq_false hp]; rfl
end Go.Proofs.Ytfkhdfnjlegnhaa.Pure
