/- RatioSquares: a move is worth it just if the sum of squares is less behind it; so is a hop. For every input. -/
import Derived.Test.YtjenfohogjomdaaPx6
import Derived.Test.YtjenfohogjomdaaRatioL
namespace Go.Proofs.Ytjenfohogjomdaa.Pure
open Go.RowKit Go.Proofs.Ytjenfohogjomdaa.P Go.Proofs.YtjenfohogjomdaaW.PrintWords Go.Proofs.YtjenfohogjomdaaW.PrintLast

theorem squares_true (a b m n : Int) : rosarylaw18_RatioSquares.j0 12 a b m n true = some true := by
  simp only [rosarylaw18_RatioSquares.j0, if_true]; rw [alive_eq 11 (by omega)]; rfl

theorem pot2 (x y : Int) (hx0 : 0 ≤ x) (hx : x ≤ 400) (hy0 : 0 ≤ y) (hy : y ≤ 400) (k : Nat) (hk : 5 ≤ k) : ratio_Potential.f k [x, y] = some (x * x + y * y) := by
  have h1 : 0 ≤ x * x ∧ x * x ≤ 160000 := ⟨Int.mul_nonneg hx0 hx0, Int.le_trans (Int.mul_le_mul_of_nonneg_right hx hx0) (by omega)⟩
  have h2 : 0 ≤ y * y ∧ y * y ≤ 160000 := ⟨Int.mul_nonneg hy0 hy0, Int.le_trans (Int.mul_le_mul_of_nonneg_right hy hy0) (by omega)⟩
  rw [pot_eq _ (by simp [maxLen]) k (by simp; omega)]
  simp only [sq_cons, show sq [] = 0 from rfl, IntKind.wrap_u64]
  rw [if_neg (by omega), if_neg (by omega)]
  congr 1; omega

theorem pot3 (x y z : Int) (hx0 : 0 ≤ x) (hx : x ≤ 400) (hy0 : 0 ≤ y) (hy : y ≤ 400) (hz0 : 0 ≤ z) (hz : z ≤ 400) (k : Nat) (hk : 5 ≤ k) : ratio_Potential.f k [x, y, z] = some (x * x + y * y + z * z) := by
  have h1 : 0 ≤ x * x ∧ x * x ≤ 160000 := ⟨Int.mul_nonneg hx0 hx0, Int.le_trans (Int.mul_le_mul_of_nonneg_right hx hx0) (by omega)⟩
  have h2 : 0 ≤ y * y ∧ y * y ≤ 160000 := ⟨Int.mul_nonneg hy0 hy0, Int.le_trans (Int.mul_le_mul_of_nonneg_right hy hy0) (by omega)⟩
  have h3 : 0 ≤ z * z ∧ z * z ≤ 160000 := ⟨Int.mul_nonneg hz0 hz0, Int.le_trans (Int.mul_le_mul_of_nonneg_right hz hz0) (by omega)⟩
  rw [pot_eq _ (by simp [maxLen]) k (by simp; omega)]
  simp only [sq_cons, show sq [] = 0 from rfl, IntKind.wrap_u64]
  rw [if_neg (by omega), if_neg (by omega), if_neg (by omega)]
  congr 1; omega

/-- A move of m: the sum of squares falls by 2 m (b - a - m). -/
theorem move_iff (a b m : Int) (hm : 1 ≤ m) : (m < b - a) ↔ (a + m) * (a + m) + (b - m) * (b - m) < a * a + b * b := by
  have e : a * a + b * b - ((a + m) * (a + m) + (b - m) * (b - m)) = 2 * (m * (b - a - m)) := by
    simp only [Int.add_mul, Int.mul_add, Int.sub_mul, Int.mul_sub, Int.mul_comm m a, Int.mul_comm m b]; omega
  constructor
  · intro h
    have : 0 < m * (b - a - m) := Int.mul_pos (by omega) (by omega)
    omega
  · intro h
    have hp : 0 < m * (b - a - m) := by omega
    by_cases h' : 0 < b - a - m
    · omega
    · have := Int.mul_le_mul_of_nonneg_left (show b - a - m ≤ 0 by omega) (show 0 ≤ m by omega)
      omega

theorem hop_iff (a b m n : Int) : (n * a < m * (b - m)) ↔ m * m + (b - m) * (b - m) + (n + a) * (n + a) < a * a + b * b + n * n := by
  have e : a * a + b * b + n * n - (m * m + (b - m) * (b - m) + (n + a) * (n + a)) = 2 * (m * (b - m) - n * a) := by
    simp only [Int.add_mul, Int.mul_add, Int.sub_mul, Int.mul_sub, Int.mul_comm m b, Int.mul_comm n a]; omega
  omega

theorem RatioSquares : rosarylaw18_RatioSquares.Pure := by
  intro a b m n _ _ _ _
  refine ⟨12, ?_⟩
  unfold rosarylaw18_RatioSquares.f
  by_cases h1 : a < 0
  · rw [if_pos h1, squares_true]
  rw [if_neg h1]
  by_cases h2 : b < 0
  · rw [if_pos h2, squares_true]
  rw [if_neg h2]
  by_cases h3 : n < 0
  · rw [if_pos h3, squares_true]
  rw [if_neg h3]
  by_cases h4 : a > 200
  · rw [if_pos h4, squares_true]
  rw [if_neg h4]
  by_cases h5 : b > 200
  · rw [if_pos h5, squares_true]
  rw [if_neg h5]
  by_cases h6 : n > 200
  · rw [if_pos h6, squares_true]
  rw [if_neg h6]
  by_cases h7 : m < 1
  · rw [if_pos h7, squares_true]
  rw [if_neg h7]
  by_cases h8 : m > b
  · rw [if_pos h8, squares_true]
  rw [if_neg h8, alive_eq 12 (by omega), Option.bind_some]
  have hw : worth a b m = decide ((a + m) * (a + m) + (b - m) * (b - m) < a * a + b * b) := by
    unfold worth
    rw [decide_eq_decide, ← move_iff a b m (by omega), cnt_iff, cnt_iff]
    omega
  simp only [rosarylaw18_RatioSquares.j0, Bool.not_true, Bool.false_eq_true, if_false]
  rw [w64 (n := a + m) (by omega) (by omega), w64 (n := b - m) (by omega) (by omega), w64 (n := n + a) (by omega) (by omega)]
  rw [pot2 _ _ (by omega) (by omega) (by omega) (by omega) 11 (by omega), pot2 _ _ (by omega) (by omega) (by omega) (by omega) 11 (by omega), pot3 _ _ _ (by omega) (by omega) (by omega) (by omega) (by omega) (by omega) 11 (by omega), pot3 _ _ _ (by omega) (by omega) (by omega) (by omega) (by omega) (by omega) 11 (by omega), worth_eq _ _ _ 11 (by omega), worthHop_eq _ _ _ _ 11 (by omega)]
  simp only [Option.bind_some, hw, bne_self_eq_false, Bool.false_eq_true, if_false]
  by_cases h9 : m = b
  · rw [if_pos h9]; simp [worthHop, h9]
  · rw [if_neg h9]
    have hh : worthHop a b m n = decide (m * m + (b - m) * (b - m) + (n + a) * (n + a) < a * a + b * b + n * n) := by
      unfold worthHop
      rw [decide_eq_decide, ← hop_iff a b m n, cnt_iff, cnt_iff, cnt_iff]
      generalize n * a = p
      generalize m * (b - m) = q
      omega
    simp [hh]
end Go.Proofs.Ytjenfohogjomdaa.Pure
