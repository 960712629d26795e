/- SeatApart: the mixing is one to one, and what is far one way and back goes all around. For every two numbers. -/
import Derived.Test.YthomemhollhljaaPx23
import Derived.Test.YthomemhollhljaaSeatL
namespace Go.Proofs.Ythomemhollhljaa.Pure
open Go.RowKit Go.Proofs.Ythomemhollhljaa.P Go.Proofs.YthomemhollhljaaW.PrintWords Go.Proofs.YthomemhollhljaaW.PrintLast Go.Proofs.YthomemhollhljaaW.PrintMore
set_option linter.unusedVariables false
set_option linter.unusedSimpArgs false

theorem mix_same (n m : Nat) (hn : n < M) (hm : m < M) : ((((mixN n : Nat) : Int) == ((mixN m : Nat) : Int)) == ((n : Int) == (m : Int))) = true := by
  have h2 : n ≠ m → mixN n ≠ mixN m := fun h h3 => h (mixN_inj n m hn hm h3)
  generalize hx : mixN n = x at *
  generalize hy : mixN m = y at *
  by_cases h : n = m
  · have : x = y := by rw [← hx, ← hy, h]
    rw [this, h]; simp
  · have h3 : ((n : Int) == (m : Int)) = false := by simp; omega
    have h5 := h2 h
    have h4 : ((x : Int) == (y : Int)) = false := by simp; omega
    rw [h3, h4]; rfl

theorem far_back (v w : Int) : IntKind.u64.wrap (far v w + far w v) = 0 := by
  rw [IntKind.wrap_u64]; unfold far; omega

theorem mix_pair (v w : Int) (hv : In64 v) (hw : In64 w) : ∃ x y, seat_Mix.f v = some x ∧ seat_Mix.f w = some y ∧ ((x == y) == (v == w)) = true := by
  unfold In64 at hv hw
  obtain ⟨n, rfl⟩ : ∃ n : Nat, v = (n : Int) := ⟨v.toNat, by omega⟩
  obtain ⟨m, rfl⟩ : ∃ n : Nat, w = (n : Int) := ⟨w.toNat, by omega⟩
  exact ⟨_, _, mix_eq n, mix_eq m, mix_same n m (by unfold M; omega) (by unfold M; omega)⟩

theorem SeatApart : rosarylaw10_SeatApart.Pure := by
  intro v w hv hw
  refine ⟨8, ?_⟩
  unfold rosarylaw10_SeatApart.f
  obtain ⟨x, y, hx, hy, e⟩ := mix_pair v w (wf_u64 hv) (wf_u64 hw)
  rw [alive_eq 8 (by omega), hx, hy]
  simp only [Option.bind_some, if_true, far_eq, far_self, e, far_back]
  rfl
end Go.Proofs.Ythomemhollhljaa.Pure
