/- SeatOne: beside one that sits already a node takes the seat that is farthest ahead of it. For every input. -/
import Derived.Test.YthomemhollhljaaPx25
import Derived.Test.YthomemhollhljaaSeatL
namespace Go.Proofs.Ythomemhollhljaa.Pure
open Go.RowKit Go.Proofs.Ythomemhollhljaa.P Go.Proofs.YthomemhollhljaaW.PrintWords Go.Proofs.YthomemhollhljaaW.PrintLast Go.Proofs.YthomemhollhljaaW.PrintMore
set_option linter.unusedVariables false
set_option linter.unusedSimpArgs false

theorem mx_spec (a b : Int) : a ≤ mx a b ∧ b ≤ mx a b ∧ (mx a b = a ∨ mx a b = b) := by
  unfold mx; split <;> omega

theorem one_l (o x : Int) (S : List Int) (hS : S.length ≤ maxLen) (d : Nat) : ∀ (k : Nat) (i m : Int), 0 ≤ i → (S.length : Int) - i = d → d < k →
    rosarylaw10_SeatOne.l0 k o x true m S (S.length : Int) i = (if far x o = (S.drop i.toNat).foldl (fun m s => mx m (far s o)) m then some (decide ((S.drop i.toNat).foldl (fun m s => mx m (far s o)) m > 0)) else some false) := by
  unfold maxLen at hS
  induction d with
  | zero =>
    intro k i m h0 hd hk
    obtain ⟨k, rfl⟩ : ∃ m, k = m + 1 := ⟨k - 1, by omega⟩
    simp only [rosarylaw10_SeatOne.l0]; rw [if_neg (by omega), List.drop_eq_nil_of_le (by omega), if_pos trivial, far_eq]; rfl
  | succ d ih =>
    intro k i m h0 hd hk
    obtain ⟨k, rfl⟩ : ∃ m, k = m + 1 := ⟨k - 1, by omega⟩
    have hlt : i < (S.length : Int) := by omega
    simp only [rosarylaw10_SeatOne.l0]
    rw [if_pos hlt, if_pos h0, if_pos hlt, far_eq, Option.bind_some, w64 (by omega) (by omega), ih k (i + 1) _ (by omega) (by omega) (by omega), drop_rd S i h0 hlt]
    rfl

theorem best_one (o : Int) : ∀ (S : List Int) (b : Int × Int), (best [o] S b).2 = S.foldl (fun m s => mx m (far s o)) b.2
  | [], b => rfl
  | y :: S, b => by
    show (best [o] S (if room y [o] ≤ b.2 then b else (y, room y [o]))).2 = S.foldl (fun m s => mx m (far s o)) (mx b.2 (far y o))
    rw [best_one o S, room_one]
    congr 1
    unfold mx
    by_cases h : far y o ≤ b.2
    · rw [if_pos h, if_neg (by omega)]
    · rw [if_neg h, if_pos (by omega)]

theorem SeatOne : rosarylaw10_SeatOne.Pure := by
  intro a b o _ _ ho
  refine ⟨12, ?_⟩
  unfold rosarylaw10_SeatOne.f
  have ho' : In64 o := wf_u64 ho
  rw [alive_eq 12 (by omega), Option.bind_some, if_pos rfl, pick_eq a b [o] (by simp [maxLen]) (by simp) 12 (by simp), Option.bind_some, seats_eq a b 12 (by omega), Option.bind_some, if_neg (by simp [seats])]
  obtain ⟨h1, h2, h3⟩ := best_spec [o] (seats a b) (0, 0)
  have hp : 0 < (best [o] (seats a b) (0, 0)).2 := by
    have g0 := h2 (sn a b 0) (by simp [seats])
    have g1 := h2 (sn a b 1) (by simp [seats])
    rw [room_one] at g0 g1
    have n0 := far_nonneg (sn a b 0) o
    have n1 := far_nonneg (sn a b 1) o
    rcases Nat.lt_or_ge 0 (best [o] (seats a b) (0, 0)).2.toNat with g | g
    · omega
    · exfalso
      have z0 : far (sn a b 0) o = 0 := by omega
      have z1 : far (sn a b 1) o = 0 := by omega
      exact sn_ne a b ((far_zero (sn_in a b 0) ho' z0).trans (far_zero (sn_in a b 1) ho' z1).symm)
  have hf : far (best [o] (seats a b) (0, 0)).1 o = (best [o] (seats a b) (0, 0)).2 := by
    rcases h3 with h3 | ⟨_, h4, _⟩
    · rw [h3] at hp; simp at hp
    · rw [← h4, room_one]
  simp only [gt_iff_lt, hp, decide_true]
  rw [one_l o _ (seats a b) (by simp [seats, maxLen]) 4 12 0 0 (by omega) (by simp [seats]) (by omega)]
  have hb := best_one o (seats a b) (0, 0)
  simp only at hb
  rw [show (seats a b).drop (0 : Int).toNat = seats a b from rfl, ← hb, if_pos hf]
  simp [hp]
end Go.Proofs.Ythomemhollhljaa.Pure
