/- FingerRounds: the ways from all seats to one point end at the same one. For every input. -/
import Derived.Test.YtfkhdfnjlegnhaaPx28
import Derived.Test.YtfkhdfnjlegnhaaFingerL
namespace Go.Proofs.Ytfkhdfnjlegnhaa.Pure
open Go.RowKit Go.Proofs.Ytfkhdfnjlegnhaa.P Go.Proofs.YtfkhdfnjlegnhaaW.PrintWords Go.Proofs.YtfkhdfnjlegnhaaW.PrintLast Go.Proofs.YtfkhdfnjlegnhaaW.PrintMore
set_option linter.unusedVariables false
set_option linter.unusedSimpArgs false

theorem rounds_l (t e : Int) (S : List Int) (hS : S.length ≤ 1000) (h64 : ∀ x ∈ S, In64 x) (hE : End e t S) (d : Nat) : ∀ (k : Nat) (i x : Int) (b : Bool), 0 ≤ i → (S.length : Int) - i = d → 2 * d + 4000 < k → (b = true ∨ x = e) → rosarylaw12_FingerRounds.l0 k t S x b S (S.length : Int) i = some true := by
  induction d with
  | zero =>
    intro k i x b h0 hd hk hb
    obtain ⟨k, rfl⟩ : ∃ m, k = m + 1 := ⟨k - 1, by omega⟩
    simp only [rosarylaw12_FingerRounds.l0]; rw [if_neg (by omega)]
  | succ d ih =>
    intro k i x b h0 hd hk hb
    obtain ⟨k, rfl⟩ : ∃ m, k = m + 2 := ⟨k - 2, by omega⟩
    have hlt : i < (S.length : Int) := by omega
    obtain ⟨e', w, hE', hw, w2, w3, w4, w5⟩ := way_eq (t := t) hS h64 (rd_mem S i h0 hlt)
    obtain ⟨g1, g2, g3⟩ := way_last hw
    have := end_unique h64 hE' hE
    subst this
    simp only [rosarylaw12_FingerRounds.l0]
    rw [if_pos hlt, if_pos h0, if_pos hlt, w5 (k + 1) (by omega)]
    simp only [Option.bind_some, if_true]
    rw [decide_eq_false (by omega)]
    simp only [rosarylaw12_FingerRounds.j2, Bool.false_eq_true, if_false]
    rw [w64 (n := (w.length : Int) - 1) (by omega) (by omega), w64 (n := i + 1) (by omega) (by omega)]
    have hn := ih k (i + 1) e' false (by omega) (by omega) (by omega) (.inr rfl)
    cases b with
    | true =>
      simp only [if_true]
      rw [if_pos (by omega), if_pos (by omega), g1, hn]
    | false =>
      rcases hb with hb | hb
      · cases hb
      · simp only [Bool.false_eq_true, if_false]
        rw [if_pos (by omega), if_pos (by omega), g1, if_pos hb.symm, hn]

theorem FingerRounds : rosarylaw12_FingerRounds.Pure := by
  intro t S ht hl _ h64
  refine ⟨9000, ?_⟩
  unfold rosarylaw12_FingerRounds.f
  have h0 : rosarylaw12_FingerRounds.j0 9000 t S true = some true := by
    simp only [rosarylaw12_FingerRounds.j0, if_true]; rw [alive_eq _ (by omega)]; rfl
  by_cases h : (S.length : Int) < 1
  · rw [if_pos h, h0]
  by_cases h' : (S.length : Int) > 20
  · rw [if_neg h, if_pos h', h0]
  rw [if_neg h, if_neg h', alive_eq _ (by omega), Option.bind_some]
  simp only [rosarylaw12_FingerRounds.j0, Bool.not_true, Bool.false_eq_true, if_false]
  have hA : ∀ x ∈ S, In64 x := fun x hx => wf_u64 (h64 x hx)
  obtain ⟨e, hE⟩ := end_of t S (by omega)
  exact rounds_l t e S (by omega) hA hE S.length 8999 0 0 true (by omega) (by omega) (by omega) (.inl rfl)
end Go.Proofs.Ytfkhdfnjlegnhaa.Pure
