/- RatioHelps: what is planned makes the sum of squares less: of the lower part, of the upper one, of a hop. For every input. -/
import Derived.Test.YtjenfohogjomdaaPx11
import Derived.Test.YtjenfohogjomdaaPlanL
namespace Go.Proofs.Ytjenfohogjomdaa.Pure
open Go.RowKit Go.Proofs.Ytjenfohogjomdaa.P Go.Proofs.YtjenfohogjomdaaW.PrintWords Go.Proofs.YtjenfohogjomdaaW.PrintLast
set_option linter.unusedVariables false
set_option linter.unusedSimpArgs false

theorem pot3h (x y z : Int) (hx0 : 0 ≤ x) (hx : x ≤ 400) (hy0 : 0 ≤ y) (hy : y ≤ 400) (hz0 : 0 ≤ z) (hz : z ≤ 400) (k : Nat) (hk : 5 ≤ k) : ratio_Potential.f k [x, y, z] = some (x * x + y * y + z * z) := by
  have h1 : 0 ≤ x * x ∧ x * x ≤ 160000 := ⟨Int.mul_nonneg hx0 hx0, Int.le_trans (Int.mul_le_mul_of_nonneg_right hx hx0) (by omega)⟩
  have h2 : 0 ≤ y * y ∧ y * y ≤ 160000 := ⟨Int.mul_nonneg hy0 hy0, Int.le_trans (Int.mul_le_mul_of_nonneg_right hy hy0) (by omega)⟩
  have h3 : 0 ≤ z * z ∧ z * z ≤ 160000 := ⟨Int.mul_nonneg hz0 hz0, Int.le_trans (Int.mul_le_mul_of_nonneg_right hz hz0) (by omega)⟩
  rw [pot_eq _ (by simp [maxLen]) k (by simp; omega)]
  simp only [sq_cons, show sq [] = 0 from rfl, IntKind.wrap_u64]
  rw [if_neg (by omega), if_neg (by omega), if_neg (by omega)]
  congr 1; omega

theorem move_less (a b m : Int) (hm : 1 ≤ m) (h : m < b - a) : (a + m) * (a + m) + (b - m) * (b - m) < a * a + b * b := by
  have e : a * a + b * b - ((a + m) * (a + m) + (b - m) * (b - m)) = 2 * (m * (b - a - m)) := by
    simp only [Int.add_mul, Int.mul_add, Int.sub_mul, Int.mul_sub, Int.mul_comm m a, Int.mul_comm m b]; omega
  have : 0 < m * (b - a - m) := Int.mul_pos (by omega) (by omega)
  omega

theorem hop_less (a b m n : Int) (h : n * a < m * (b - m)) : m * m + (b - m) * (b - m) + (n + a) * (n + a) < a * a + b * b + n * n := by
  have e : a * a + b * b + n * n - (m * m + (b - m) * (b - m) + (n + a) * (n + a)) = 2 * (m * (b - m) - n * a) := by
    simp only [Int.add_mul, Int.mul_add, Int.sub_mul, Int.mul_sub, Int.mul_comm m b, Int.mul_comm n a]; omega
  omega

theorem RatioHelps : rosarylaw18_RatioHelps.Pure := by
  intro a0 a1 a2 a b low mine _ _ _ _ _ _ _
  refine ⟨14, ?_⟩
  unfold rosarylaw18_RatioHelps.f
  have ht : ∀ m0 m1 m2 m3 h0 h1 h2 h3 n0 n1 n2 n3 : Int, rosarylaw18_RatioHelps.j0 14 a b low mine true m0 m1 m2 m3 h0 h1 h2 h3 n0 n1 n2 n3 = some true := by
    intro m0 m1 m2 m3 h0 h1 h2 h3 n0 n1 n2 n3
    simp only [rosarylaw18_RatioHelps.j0, if_true]; rw [alive_eq 13 (by omega)]; rfl
  by_cases g1 : a < 0
  · rw [if_pos g1, ht]
  by_cases g2 : b < 0
  · rw [if_neg g1, if_pos g2, ht]
  by_cases g3 : mine < 0
  · rw [if_neg g1, if_neg g2, if_pos g3, ht]
  by_cases g4 : a > 200
  · rw [if_neg g1, if_neg g2, if_neg g3, if_pos g4, ht]
  by_cases g5 : b > 200
  · rw [if_neg g1, if_neg g2, if_neg g3, if_neg g4, if_pos g5, ht]
  by_cases g6 : mine > 200
  · rw [if_neg g1, if_neg g2, if_neg g3, if_neg g4, if_neg g5, if_pos g6, ht]
  rw [if_neg g1, if_neg g2, if_neg g3, if_neg g4, if_neg g5, if_neg g6, alive_eq 14 (by omega), Option.bind_some]
  simp only [rosarylaw18_RatioHelps.j0, Bool.not_true, Bool.false_eq_true, if_false]
  rw [plan_eq _ _ _ _ _ _ _ _ _ _ _ _ _ _ _ _ 13 (by omega), pot3h a b mine (by omega) (by omega) (by omega) (by omega) (by omega) (by omega) 13 (by omega), uneven_eq _ _ 13 (by omega)]
  simp only [Option.bind_some]
  unfold plan
  by_cases c : uneven a b = false ∨ low < 1 ∨ low > b - 1
  · rw [if_pos c]; rfl
  rw [if_neg c]
  have hu : uneven a b = true := by
    cases h : uneven a b with
    | true => rfl
    | false => exact absurd (.inl h) c
  have hl1 : 1 ≤ low := by omega
  have hl2 : low ≤ b - 1 := by omega
  clear c
  have e1 : wrap64 (a + low) = a + low := w64 (by omega) (by omega)
  have e2 : wrap64 (b - low) = b - low := w64 (by omega) (by omega)
  have e3 : wrap64 (a + b) = a + b := w64 (by omega) (by omega)
  have e4 : wrap64 (a + b - low) = a + b - low := w64 (by omega) (by omega)
  have e5 : wrap64 (mine + a) = mine + a := w64 (by omega) (by omega)
  simp only [e1, e2, e3, e4, e5]
  have p1 := pot3h (a + low) (b - low) mine (by omega) (by omega) (by omega) (by omega) (by omega) (by omega) 13 (by omega)
  have p2 := pot3h (a + b - low) low mine (by omega) (by omega) (by omega) (by omega) (by omega) (by omega) 13 (by omega)
  have p3 := pot3h low (b - low) (mine + a) (by omega) (by omega) (by omega) (by omega) (by omega) (by omega) 13 (by omega)
  rw [p1, p2, p3]
  simp only [Option.bind_some, hu]
  by_cases c1 : a0.f2 < 0 ∨ foll a0.f0.f0 a0.f0.f1 a1.f0.f0 a1.f0.f1 = true
  · rw [if_pos c1]
    by_cases c2 : worth a b low = true
    · rw [if_pos c2, if_pos rfl, if_pos]
      have h : low < b - a := by simp [worth] at c2; omega
      have := move_less a b low hl1 h
      omega
    · rw [if_neg c2]; rfl
  rw [if_neg c1]
  by_cases c3 : foll a1.f0.f0 a1.f0.f1 a0.f0.f0 a0.f0.f1 = true
  · rw [if_pos c3]
    by_cases c2 : worth a b (b - low) = true
    · rw [if_pos c2, if_neg (by omega), if_pos rfl, if_pos]
      have h : b - low < b - a := by simp [worth] at c2; omega
      have := move_less a b (b - low) (by omega) h
      rw [show a + (b - low) = a + b - low by omega, show b - (b - low) = low by omega] at this
      omega
    · rw [if_neg c2]; rfl
  rw [if_neg c3]
  by_cases c4 : a2.f1 ≠ a1.f1 ∧ a2.f1 ≠ a0.f1 ∧ mine ≤ b ∧ worthHop a b low mine = true
  · rw [if_pos c4, if_neg (by omega), if_neg (by omega), if_pos rfl, if_pos]
    have h : mine * a < low * (b - low) := by
      have := c4.2.2.2
      simp [worthHop] at this
      exact this.2.2.2.2.2
    exact hop_less a b low mine h
  · rw [if_neg c4]; rfl
end Go.Proofs.Ytjenfohogjomdaa.Pure
