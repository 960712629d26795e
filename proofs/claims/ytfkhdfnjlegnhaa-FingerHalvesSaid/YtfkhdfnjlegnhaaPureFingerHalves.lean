/- FingerHalves: each hop at least halves how far it is to where the way ends; so there are few. For every input. -/
import Derived.Test.YtfkhdfnjlegnhaaPx27
import Derived.Test.YtfkhdfnjlegnhaaFingerL
namespace Go.Proofs.Ytfkhdfnjlegnhaa.Pure
open Go.RowKit Go.Proofs.Ytfkhdfnjlegnhaa.P Go.Proofs.YtfkhdfnjlegnhaaW.PrintWords Go.Proofs.YtfkhdfnjlegnhaaW.PrintLast Go.Proofs.YtfkhdfnjlegnhaaW.PrintMore
set_option linter.unusedVariables false
set_option linter.unusedSimpArgs false

theorem halves_l0 (t e p : Int) (w : List Int) (hw : WayTo e t p w) (hl : w.length ≤ 65) (d : Nat) : ∀ (k : Nat) (i : Int), 1 ≤ i → (w.length : Int) - i = d → d < k → rosarylaw12_FingerHalves.l0 k w i = some true := by
  obtain ⟨g1, g2, g3⟩ := way_last hw
  induction d with
  | zero =>
    intro k i h0 hd hk
    obtain ⟨k, rfl⟩ : ∃ m, k = m + 1 := ⟨k - 1, by omega⟩
    simp only [rosarylaw12_FingerHalves.l0]
    rw [if_neg (by omega), decide_eq_true (by omega)]
  | succ d ih =>
    intro k i h0 hd hk
    obtain ⟨k, rfl⟩ : ∃ m, k = m + 1 := ⟨k - 1, by omega⟩
    have he := (way_each hw i h0 (by omega)).1
    have hn := far_nonneg (rd w (i - 1)) e
    have hlt := far_lt (rd w (i - 1)) e
    simp only [rosarylaw12_FingerHalves.l0]
    rw [w64 (n := (w.length : Int) - 1) (by omega) (by omega), w64 (n := i - 1) (by omega) (by omega), g1]
    simp only [far_wrap]
    rw [if_pos (by omega), if_pos (by omega), if_pos (by omega), if_pos (by omega), if_pos (by omega), if_pos (by omega), Int.tdiv_eq_ediv_of_nonneg hn, IntKind.wrap_u64, if_neg (by omega), w64 (by omega) (by omega), ih k (i + 1) (by omega) (by omega) (by omega)]

theorem FingerHalves : rosarylaw12_FingerHalves.Pure := by
  intro me t S hme ht hl _ h64
  refine ⟨5000, ?_⟩
  unfold rosarylaw12_FingerHalves.f
  have h0 : rosarylaw12_FingerHalves.j0 5000 me t S true = some true := by
    simp only [rosarylaw12_FingerHalves.j0, if_true]; rw [alive_eq _ (by omega)]; rfl
  by_cases h : (S.length : Int) > 40
  · rw [if_pos h, h0]
  rw [if_neg h, alive_eq _ (by omega), Option.bind_some]
  have hA : ∀ x ∈ [me] ++ S, In64 x := by
    intro x hx
    rcases List.mem_append.1 hx with hx | hx
    · simp at hx; rw [hx]; exact wf_u64 hme
    · exact wf_u64 (h64 x hx)
  obtain ⟨e, w, hE, hw, w2, w3, w4, w5⟩ := way_eq (t := t) (S := [me] ++ S) (by simp; omega) hA (me := me) (by simp)
  simp only [rosarylaw12_FingerHalves.j0, Bool.not_true, Bool.false_eq_true, if_false]
  simp only [Option.bind_some]
  rw [if_pos (by simp; omega), w5 4999 (by omega)]
  simp only [Option.bind_some, if_true]
  rw [decide_eq_false (by omega)]
  simp only [rosarylaw12_FingerHalves.j1, Bool.false_eq_true, if_false]
  exact halves_l0 t e me w hw w3 (w.length - 1) 4998 1 (by omega) (by omega) (by omega)
end Go.Proofs.Ytfkhdfnjlegnhaa.Pure
