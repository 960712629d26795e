/- RatioTells: of every two how uneven they are, whether a move, or a hop, helps, and every sum of squares, are the document's. For every input. -/
import Derived.Test.YtjenfohogjomdaaPx5
import Derived.Test.YtjenfohogjomdaaRatioL
namespace Go.Proofs.Ytjenfohogjomdaa.Pure
open Go.RowKit Go.Proofs.Ytjenfohogjomdaa.P Go.Proofs.YtjenfohogjomdaaW.PrintWords Go.Proofs.YtjenfohogjomdaaW.PrintLast

theorem tells_end (a b m n s : Int) (l m_ : List Int) (hl : l.length ≤ maxLen) (k : Nat) (hk : l.length + 6 < k) (hs : s = IntKind.u64.wrap (sq l)) (i : Int) (hi : ¬ i < (m_.length : Int)) : rosarylaw18_RatioTells.l0 (k + 1) a b m n l s m_ (m_.length : Int) i = some true := by
  simp only [rosarylaw18_RatioTells.l0]
  rw [if_neg hi, uneven_eq _ _ k (by omega), worth_eq _ _ _ k (by omega), worthHop_eq _ _ _ _ k (by omega), pot_eq l hl k (by omega), runeven_eq, rworth_eq, rworthHop_eq]
  simp [hs]

theorem tells_l (a b m n : Int) (l : List Int) (hl : l.length ≤ maxLen) (d : Nat) : ∀ (k : Nat) (i s : Int), 0 ≤ i → (l.length : Int) - i = d → d + l.length + 8 < k → IntKind.u64.wrap (s + sq (l.drop i.toNat)) = IntKind.u64.wrap (sq l) → rosarylaw18_RatioTells.l0 k a b m n l (IntKind.u64.wrap s) l (l.length : Int) i = some true := by
  have hm := hl
  unfold maxLen at hm
  induction d with
  | zero =>
    intro k i s h0 hd hk hs
    obtain ⟨k, rfl⟩ : ∃ m, k = m + 1 := ⟨k - 1, by omega⟩
    refine tells_end a b m n _ l l hl k (by omega) ?_ i (by omega)
    rw [List.drop_eq_nil_of_le (by omega)] at hs
    rw [← hs]; simp [sq]
  | succ d ih =>
    intro k i s h0 hd hk hs
    obtain ⟨k, rfl⟩ : ∃ m, k = m + 1 := ⟨k - 1, by omega⟩
    have hlt : i < (l.length : Int) := by omega
    rw [drop_rd l i h0 hlt, sq_cons] at hs
    simp only [rosarylaw18_RatioTells.l0]
    rw [if_pos hlt, if_pos h0, if_pos hlt, w64 (by omega) (by omega)]
    by_cases h1 : rd l i > 0
    · rw [if_pos h1, wrap_sq]
      refine ih k (i + 1) _ (by omega) (by omega) (by omega) ?_
      rw [if_neg (by omega)] at hs
      rw [← hs, Int.add_assoc]
    · rw [if_neg h1]
      refine ih k (i + 1) _ (by omega) (by omega) (by omega) ?_
      have hz : (if rd l i < 0 then 0 else rd l i * rd l i) = 0 := by
        by_cases h : rd l i < 0
        · rw [if_pos h]
        · rw [if_neg h, show rd l i = 0 by omega]; rfl
      rw [hz, Int.zero_add] at hs
      exact hs

theorem RatioTells : rosarylaw18_RatioTells.Pure := by
  intro a b m n l _ _ _ _ hl _ _
  refine ⟨2 * l.length + 20, ?_⟩
  unfold rosarylaw18_RatioTells.f
  have ht : rosarylaw18_RatioTells.j0 (2 * l.length + 20) a b m n l true = some true := by
    simp only [rosarylaw18_RatioTells.j0, if_true]; rw [alive_eq _ (by omega)]; rfl
  by_cases h : (l.length : Int) > 60
  · rw [if_pos h, ht]
  · rw [if_neg h, alive_eq _ (by omega), Option.bind_some]
    simp only [rosarylaw18_RatioTells.j0, Bool.not_true, Bool.false_eq_true, if_false]
    exact tells_l a b m n l hl l.length _ 0 0 (by omega) (by omega) (by omega) (by simp)
end Go.Proofs.Ytjenfohogjomdaa.Pure
