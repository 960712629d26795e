/- RatioNever: who is not light enough, or cannot be given a part, is planned nothing; who has no arc is never planned to leave. For every input. -/
import Derived.Test.YtjenfohogjomdaaPx12
import Derived.Test.YtjenfohogjomdaaPlanL
namespace Go.Proofs.Ytjenfohogjomdaa.Pure
open Go.RowKit Go.Proofs.Ytjenfohogjomdaa.P Go.Proofs.YtjenfohogjomdaaW.PrintWords Go.Proofs.YtjenfohogjomdaaW.PrintLast
set_option linter.unusedVariables false
set_option linter.unusedSimpArgs false

theorem plan_range (m0 m1 m2 m3 h0 h1 h2 n2 a b low mine : Int) : 0 ≤ plan m0 m1 m2 m3 h0 h1 h2 n2 a b low mine ∧ plan m0 m1 m2 m3 h0 h1 h2 n2 a b low mine ≤ 3 := by
  unfold plan
  repeat' split
  all_goals omega

theorem plan_none (m0 m1 m2 h0 h1 h2 n2 a b low mine : Int) : plan m0 m1 m2 (-1) h0 h1 h2 n2 a b low mine = 0 ∨ plan m0 m1 m2 (-1) h0 h1 h2 n2 a b low mine = 1 := by
  unfold plan
  split
  · exact .inl rfl
  · rw [if_pos (.inl (by omega))]
    split
    · exact .inr rfl
    · exact .inl rfl

theorem never_end (a b low mine p m0 m1 m2 m3 h0 h1 h2 h3 n0 n1 n2 n3 : Int) (hp : 0 ≤ p ∧ p ≤ 3) : rosarylaw18_RatioNever.j0 14 a b low mine p false m0 m1 m2 m3 h0 h1 h2 h3 n0 n1 n2 n3 = some true := by
  simp only [rosarylaw18_RatioNever.j0, Bool.false_eq_true, if_false]
  rw [plan_eq _ _ _ _ _ _ _ _ _ _ _ _ _ _ _ _ 13 (by omega), Option.bind_some, if_pos (by omega), if_pos (by omega)]
  rcases plan_none m0 m1 m2 h0 h1 h2 n2 a b low mine with h | h
  · rw [h]; rfl
  · rw [h]; rfl

theorem RatioNever : rosarylaw18_RatioNever.Pure := by
  intro a0 a1 a2 a b low mine _ _ _ _ _ _ _
  refine ⟨14, ?_⟩
  unfold rosarylaw18_RatioNever.f
  have hr := plan_range a0.f0.f0 a0.f0.f1 a0.f1 a0.f2 a1.f0.f0 a1.f0.f1 a1.f1 a2.f1 a b low mine
  rw [alive_eq 14 (by omega), plan_eq _ _ _ _ _ _ _ _ _ _ _ _ _ _ _ _ 14 (by omega), uneven_eq _ _ 14 (by omega)]
  simp only [Option.bind_some, if_true]
  cases hu : uneven a b with
  | false =>
    have h0 : plan a0.f0.f0 a0.f0.f1 a0.f1 a0.f2 a1.f0.f0 a1.f0.f1 a1.f1 a2.f1 a b low mine = 0 := by unfold plan; rw [if_pos (.inl hu)]
    rw [h0]
    simp only [Bool.false_eq_true, if_false, bne_self_eq_false]
    exact never_end _ _ _ _ _ _ _ _ _ _ _ _ _ _ _ _ _ (by omega)
  | true =>
    simp only [if_true]
    by_cases h1 : low < 1
    · have h0 : plan a0.f0.f0 a0.f0.f1 a0.f1 a0.f2 a1.f0.f0 a1.f0.f1 a1.f1 a2.f1 a b low mine = 0 := by unfold plan; rw [if_pos (.inr (.inl h1))]
      rw [if_pos h1, h0]
      exact never_end _ _ _ _ _ _ _ _ _ _ _ _ _ _ _ _ _ (by omega)
    · by_cases h2 : low ≥ b
      · have h0 : plan a0.f0.f0 a0.f0.f1 a0.f1 a0.f2 a1.f0.f0 a1.f0.f1 a1.f1 a2.f1 a b low mine = 0 := by unfold plan; rw [if_pos (.inr (.inr (by omega)))]
        rw [if_neg h1, if_pos h2, h0]
        exact never_end _ _ _ _ _ _ _ _ _ _ _ _ _ _ _ _ _ (by omega)
      · rw [if_neg h1, if_neg h2]
        exact never_end _ _ _ _ _ _ _ _ _ _ _ _ _ _ _ _ _ hr
end Go.Proofs.Ytjenfohogjomdaa.Pure
