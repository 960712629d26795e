/- RatioEven: nobody is light beside the same, or beside one that has but one; who is, stays so beside more. For every pair of numbers. -/
import Derived.Test.YtjenfohogjomdaaPx3
import Derived.Test.YtjenfohogjomdaaRatioL
namespace Go.Proofs.Ytjenfohogjomdaa.Pure
open Go.RowKit Go.Proofs.Ytjenfohogjomdaa.P Go.Proofs.YtjenfohogjomdaaW.PrintWords Go.Proofs.YtjenfohogjomdaaW.PrintLast

theorem even_true (a b : Int) : rosarylaw18_RatioEven.j0 10 a b true = some true := by
  simp only [rosarylaw18_RatioEven.j0, if_true]; rw [alive_eq 9 (by omega)]; rfl

theorem RatioEven : rosarylaw18_RatioEven.Pure := by
  intro a b _ _
  refine ⟨10, ?_⟩
  unfold rosarylaw18_RatioEven.f
  by_cases h1 : a < 0
  · rw [if_pos h1, even_true]
  rw [if_neg h1]
  by_cases h2 : b < 0
  · rw [if_pos h2, even_true]
  rw [if_neg h2]
  by_cases h3 : a > 200
  · rw [if_pos h3, even_true]
  rw [if_neg h3]
  by_cases h4 : b ≥ 200
  · rw [if_pos h4, even_true]
  rw [if_neg h4, alive_eq 10 (by omega), Option.bind_some]
  have u1 : uneven a a = false := by simp [uneven]; omega
  have u2 : uneven a 1 = false := by simp [uneven]
  have u3 : uneven (-1) b = false := by simp [uneven, cnt]
  have u4 : uneven a 201 = false := by simp [uneven, cnt]
  have e : ∀ x y, ratio_Uneven.f 9 x y = some (uneven x y) := fun x y => uneven_eq x y 9 (by omega)
  have e' : ∀ x y, ratio_Uneven.f 8 x y = some (uneven x y) := fun x y => uneven_eq x y 8 (by omega)
  simp only [rosarylaw18_RatioEven.j0, Bool.not_true, Bool.false_eq_true, if_false, e, Option.bind_some, u1, u2]
  by_cases h : uneven a b = true
  · have hb : uneven b a = false := by simp [uneven, cnt] at h ⊢; omega
    have h5 : uneven a (b + 1) = true := by simp [uneven, cnt] at h ⊢; omega
    have h6 : a = 0 ∨ uneven (a - 1) b = true := by simp [uneven, cnt] at h ⊢; omega
    simp only [h, if_true, hb, rosarylaw18_RatioEven.j1, Bool.false_eq_true, if_false, e', Option.bind_some, w64 (n := b + 1) (by omega) (by omega), w64 (n := a - 1) (by omega) (by omega), h5, u3, u4]
    rcases h6 with h6 | h6
    · simp [h6]
    · simp [h6]
  · simp only [Bool.not_eq_true] at h
    simp only [h, rosarylaw18_RatioEven.j1, Bool.false_eq_true, if_false, e', Option.bind_some, u3, u4, Bool.not_false]
end Go.Proofs.Ytjenfohogjomdaa.Pure
