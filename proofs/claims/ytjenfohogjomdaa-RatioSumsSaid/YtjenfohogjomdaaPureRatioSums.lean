/- RatioSums: the sum of squares does not hang on the order; nobody, and who has nothing, adds nothing. For every list of numbers. -/
import Derived.Test.YtjenfohogjomdaaPx4
import Derived.Test.YtjenfohogjomdaaRatioL
namespace Go.Proofs.Ytjenfohogjomdaa.Pure
open Go.RowKit Go.Proofs.Ytjenfohogjomdaa.P Go.Proofs.YtjenfohogjomdaaW.PrintWords Go.Proofs.YtjenfohogjomdaaW.PrintLast
set_option linter.unusedVariables false
set_option linter.unusedSimpArgs false

theorem sq_append (a b : List Int) : sq (a ++ b) = sq a + sq b := by simp [sq]

/-- Where the list is turned: from its begin up to its end. -/
theorem turn_at (n : Nat) (a : Int) (hn : n ≤ 60) (ha : (Lit.int .i64 a).wf = true) :
    ∃ m : Nat, m ≤ n ∧ wrap64 ((n : Int) + 1) = (n : Int) + 1 ∧ Int.tmod (wrap64 ((wrap64 ((Int.tmod a ((n : Int) + 1)) + (n : Int))) + 1)) ((n : Int) + 1) = (m : Int) := by
  have e1 : wrap64 ((n : Int) + 1) = (n : Int) + 1 := w64 (by omega) (by omega)
  have h1 : Int.tmod a ((n : Int) + 1) < (n : Int) + 1 := Int.tmod_lt_of_pos _ (by omega)
  have h2 : -((n : Int) + 1) < Int.tmod a ((n : Int) + 1) := by
    have h3 : Int.tmod (-a) ((n : Int) + 1) < (n : Int) + 1 := Int.tmod_lt_of_pos _ (by omega)
    rw [Int.neg_tmod] at h3
    omega
  generalize Int.tmod a ((n : Int) + 1) = r at *
  have e2 : wrap64 (r + n) = r + n := w64 (by omega) (by omega)
  have e3 : wrap64 (r + n + 1) = r + n + 1 := w64 (by omega) (by omega)
  have h4 : Int.tmod (r + n + 1) ((n : Int) + 1) < (n : Int) + 1 := Int.tmod_lt_of_pos _ (by omega)
  have h5 : 0 ≤ Int.tmod (r + n + 1) ((n : Int) + 1) := Int.tmod_nonneg _ (by omega)
  refine ⟨(Int.tmod (r + n + 1) ((n : Int) + 1)).toNat, by omega, e1, ?_⟩
  rw [e2, e3]; omega

theorem RatioSums : rosarylaw18_RatioSums.Pure := by
  intro l a hl _ _ ha
  refine ⟨l.length + 10, ?_⟩
  unfold rosarylaw18_RatioSums.f
  have ht : rosarylaw18_RatioSums.j0 (l.length + 10) l a true = some true := by
    simp only [rosarylaw18_RatioSums.j0, if_true]; rw [alive_eq _ (by omega)]; rfl
  by_cases h : (l.length : Int) > 60
  · rw [if_pos h, ht]
  rw [if_neg h, alive_eq _ (by omega), Option.bind_some]
  obtain ⟨m, hm, e1, e2⟩ := turn_at l.length a (by omega) ha
  simp only [rosarylaw18_RatioSums.j0, Bool.not_true, Bool.false_eq_true, if_false]
  rw [e1, if_neg (by omega)]
  simp only [e2]
  rw [if_pos (by omega), if_pos (by omega)]
  have hml : ∀ x : List Int, x.length ≤ l.length + 2 → ratio_Potential.f (l.length + 9) x = some (IntKind.u64.wrap (sq x)) := fun x hx => pot_eq x (by unfold maxLen; omega) _ (by omega)
  simp only [Int.toNat_natCast, List.nil_append, List.length_nil, Nat.zero_add]
  have l1 : (l.drop m).length = l.length - m := List.length_drop
  have l2 : (l.take m).length = m := by rw [List.length_take]; omega
  have l3 : (l.drop m ++ l.take m).length = l.length := by rw [List.length_append, l1, l2]; omega
  have s1 : sq (l.take m) + sq (l.drop m) = sq l := by rw [← sq_append, List.take_append_drop]
  have s2 : sq (l.drop m ++ l.take m) = sq l := by rw [sq_append]; omega
  have s3 : sq ((l.drop m ++ l.take m) ++ [0, -5]) = sq l := by rw [sq_append, s2]; simp [sq]
  rw [if_pos (by omega), Option.bind_some, if_pos (by omega), Option.bind_some]
  rw [hml l (by omega), hml _ (by rw [l3]; omega)]
  simp only [Option.bind_some, s2, if_true]
  rw [if_pos (by rw [l3]; simp; omega), hml ((l.drop m ++ l.take m) ++ [0, -5]) (by rw [List.length_append, l3]; simp), hml [] (by simp), hml (l.take m) (by omega), hml (l.drop m) (by omega)]
  simp only [Option.bind_some, s3, if_true]
  rw [if_pos (by simp [sq, IntKind.wrap_u64])]
  simp only [IntKind.wrap_u64, ← Int.add_emod, s1, beq_self_eq_true]
end Go.Proofs.Ytjenfohogjomdaa.Pure
