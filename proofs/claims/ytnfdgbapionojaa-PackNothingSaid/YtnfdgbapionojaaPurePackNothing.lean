/- PackNothing: of no bytes nothing can be read; what is read of them is nothing. For every number. -/
import Derived.Test.YtnfdgbapionojaaPx8
import Derived.Test.YtnfdgbapionojaaPackL
namespace Go.Proofs.Ytnfdgbapionojaa.Pure
open Go.RowKit Go.Proofs.Ytnfdgbapionojaa.P Go.Proofs.YtnfdgbapionojaaW.PrintWords Go.Proofs.YtnfdgbapionojaaW.PrintLast Go.Proofs.YtnfdgbapionojaaW.PrintMore
set_option linter.unusedVariables false
set_option linter.unusedSimpArgs false

theorem PackNothing : rosarylaw3_PackNothing.Pure := by
  intro n _
  refine ⟨60, ?_⟩
  unfold rosarylaw3_PackNothing.f
  have hn := rnum_eq [] false (by simp) 59 (by omega)
  have ht := rtext_eq [] false (by simp) 59 (by omega)
  have hw := rwide_eq [] false (by simp) 59 (by omega)
  have e1 : ∀ m, 0 < m → rtake [] false m = ([], [], true) := fun m hm => by unfold rtake; rw [if_pos (by simp; omega)]
  have e2 : ∀ m, 0 < m → readN [] false m = (0, [], true) := fun m hm => by unfold readN; rw [e1 m hm]; rfl
  have e3 : readT [] false = ([], [], true) := by unfold readT; rw [e2 1 (by omega)]; rfl
  rw [e2 2 (by omega)] at hn
  rw [e2 8 (by omega)] at hw
  rw [e3] at ht
  rw [alive_eq 60 (by omega)]
  simp only [Option.bind_some, if_true, from_eq, mk_nil, rend_eq, rbad_eq, Bool.not_false, List.isEmpty_nil, Bool.and_true, rosarylaw3_PackNothing.j0, Bool.false_eq_true, if_false, hn, ht, hw, mk_toList]
  split
  · rfl
  · split
    · rfl
    · split
      · rfl
      · rfl
end Go.Proofs.Ytnfdgbapionojaa.Pure
