/- SeatTaken: a node all of whose seats are taken has none; with one that is free it has that. For every input. -/
import Derived.Test.YthomemhollhljaaPx24
import Derived.Test.YthomemhollhljaaSeatL
namespace Go.Proofs.Ythomemhollhljaa.Pure
open Go.RowKit Go.Proofs.Ythomemhollhljaa.P Go.Proofs.YthomemhollhljaaW.PrintWords Go.Proofs.YthomemhollhljaaW.PrintLast Go.Proofs.YthomemhollhljaaW.PrintMore
set_option linter.unusedVariables false
set_option linter.unusedSimpArgs false

theorem all_taken (S : List Int) (hp : 0 < S.length) : (best S S (0, 0)).2 = 0 := by
  obtain ⟨h1, h2, h3⟩ := best_spec S S (0, 0)
  rcases h3 with h3 | ⟨h3, h4, h5⟩
  · rw [h3]
  · have := (room_spec (best S S (0, 0)).1 S hp).1 _ h3
    rw [far_self] at this
    simp only at h5
    omega

theorem one_free (S t : List Int) (c : Int) (hp : 0 < t.length) (hc : c ∈ S) (h64 : ∀ x ∈ S, In64 x) (ht : ∀ x ∈ t, x ∈ S) (hS : ∀ x ∈ S, x = c ∨ x ∈ t) (hn : c ∉ t) : (best t S (0, 0)).1 = c ∧ 0 < (best t S (0, 0)).2 := by
  obtain ⟨h1, h2, h3⟩ := best_spec t S (0, 0)
  have hr : 0 < room c t := by
    obtain ⟨_, x, hx, he⟩ := room_spec c t hp
    have h0 := far_nonneg c x
    rcases Int.lt_or_eq_of_le h0 with g | g
    · omega
    · exact absurd (by rw [far_zero (h64 c hc) (h64 x (ht x hx)) g.symm]; exact hx) hn
  have hm := h2 c hc
  refine ⟨?_, by omega⟩
  rcases h3 with h3 | ⟨h3, h4, h5⟩
  · rw [h3] at hm; simp only at hm; omega
  · rcases hS _ h3 with g | g
    · exact g
    · have := (room_spec (best t S (0, 0)).1 t hp).1 _ g
      rw [far_self] at this
      simp only at h5
      omega

theorem taken_end (a b : Int) (S t : List Int) (c kk : Int) (e : seats a b = S) (hl : t.length = 3) (h4 : S.length = 4) (h64 : ∀ x ∈ S, In64 x) (ht : ∀ x ∈ t, x ∈ S) (hS : ∀ x ∈ S, x = c ∨ x ∈ t) (hk0 : 0 ≤ kk) (hk1 : kk < 4) (hrd : rd S kk = c) (hcS : c ∈ S) (tw : Bool) (htw : tw = true ∨ c ∉ t) (k : Nat) (hk : 20 < k) :
    rosarylaw10_SeatTaken.l1 (k + 1) a b S kk t tw S (S.length : Int) 4 = some true := by
  simp only [rosarylaw10_SeatTaken.l1]
  rw [if_neg (by omega), pick_eq a b t (by rw [hl]; simp [maxLen]) (by omega) k (by omega), pick_eq a b S (by rw [h4]; simp [maxLen]) (by omega) k (by omega), e, all_taken S (by omega)]
  simp only [Option.bind_some, Int.lt_irrefl, gt_iff_lt, decide_false, Bool.false_eq_true, if_false]
  rcases htw with rfl | hn
  · rfl
  · obtain ⟨g1, g2⟩ := one_free S t c (by omega) hcS h64 ht hS hn
    cases tw with
    | true => rfl
    | false =>
      simp only [Bool.false_eq_true, if_false, g1, hrd]
      rw [if_pos (decide_eq_true g2), if_pos hk0, if_pos (by omega)]
      simp

theorem l0_step (a b kk i : Int) (S t : List Int) (h4 : S.length = 4) (h0 : 0 ≤ i) (h1 : i < 4) (ht : t.length ≤ 10) (k : Nat) :
    rosarylaw10_SeatTaken.l0 (k + 1) a b S kk t S (S.length : Int) i = rosarylaw10_SeatTaken.l0 k a b S kk (if i = kk then t else t ++ [rd S i]) S (S.length : Int) (i + 1) := by
  simp only [rosarylaw10_SeatTaken.l0]
  rw [if_pos (by omega), if_pos h0, if_pos (by omega), w64 (by omega) (by omega)]
  by_cases h : i = kk
  · rw [if_pos h, if_pos h]
  · rw [if_neg h, if_neg h, if_pos (by omega)]

theorem l1_step (a b kk i : Int) (S t : List Int) (tw : Bool) (h4 : S.length = 4) (h0 : 0 ≤ i) (h1 : i < 4) (hk0 : 0 ≤ kk) (hk1 : kk < 4) (k : Nat) :
    rosarylaw10_SeatTaken.l1 (k + 1) a b S kk t tw S (S.length : Int) i = rosarylaw10_SeatTaken.l1 k a b S kk t (tw || (decide (i ≠ kk) && (rd S i == rd S kk))) S (S.length : Int) (i + 1) := by
  simp only [rosarylaw10_SeatTaken.l1]
  rw [if_pos (by omega), if_pos h0, if_pos (by omega), w64 (by omega) (by omega)]
  cases tw with
  | true => simp
  | false =>
    by_cases h : i = kk
    · simp [h]
    · rw [if_neg (by simp), if_neg h, if_pos hk0, if_pos (by omega)]
      simp [h]

theorem taken_all (a b : Int) (s0 s1 s2 s3 kk c : Int) (t : List Int) (e : seats a b = [s0, s1, s2, s3]) (h64 : ∀ x ∈ [s0, s1, s2, s3], In64 x) (hk0 : 0 ≤ kk) (hk1 : kk < 4)
    (hT : (if (3 : Int) = kk then (if (2 : Int) = kk then (if (1 : Int) = kk then (if (0 : Int) = kk then [] else [s0]) else (if (0 : Int) = kk then [] else [s0]) ++ [s1]) else (if (1 : Int) = kk then (if (0 : Int) = kk then [] else [s0]) else (if (0 : Int) = kk then [] else [s0]) ++ [s1]) ++ [s2])
      else (if (2 : Int) = kk then (if (1 : Int) = kk then (if (0 : Int) = kk then [] else [s0]) else (if (0 : Int) = kk then [] else [s0]) ++ [s1]) else (if (1 : Int) = kk then (if (0 : Int) = kk then [] else [s0]) else (if (0 : Int) = kk then [] else [s0]) ++ [s1]) ++ [s2]) ++ [s3]) = t)
    (hl : t.length = 3) (ht : ∀ x ∈ t, x ∈ [s0, s1, s2, s3]) (hS : ∀ x ∈ [s0, s1, s2, s3], x = c ∨ x ∈ t) (hrd : rd [s0, s1, s2, s3] kk = c) (hcS : c ∈ [s0, s1, s2, s3])
    (htw : c ∈ t → ((((false || (decide ((0 : Int) ≠ kk) && (s0 == c))) || (decide ((1 : Int) ≠ kk) && (s1 == c))) || (decide ((2 : Int) ≠ kk) && (s2 == c))) || (decide ((3 : Int) ≠ kk) && (s3 == c))) = true) (k : Nat) (hk : 20 < k) :
    rosarylaw10_SeatTaken.l0 (k + 10) a b [s0, s1, s2, s3] kk [] [s0, s1, s2, s3] (([s0, s1, s2, s3].length : Nat) : Int) 0 = some true := by
  have b0 : ∀ l : List Int, (if (0 : Int) = kk then l else l ++ [s0]).length ≤ l.length + 1 := by intro l; split <;> simp
  have b1 : ∀ l : List Int, (if (1 : Int) = kk then l else l ++ [s1]).length ≤ l.length + 1 := by intro l; split <;> simp
  have b2 : ∀ l : List Int, (if (2 : Int) = kk then l else l ++ [s2]).length ≤ l.length + 1 := by intro l; split <;> simp
  rw [l0_step a b kk 0 [s0, s1, s2, s3] [] rfl (by omega) (by omega) (by simp) (k + 9), show rd [s0, s1, s2, s3] 0 = s0 from rfl, List.nil_append, show (0 : Int) + 1 = 1 from rfl]
  have c0 := b0 []
  simp only [List.nil_append, List.length_nil] at c0
  rw [l0_step a b kk 1 [s0, s1, s2, s3] _ rfl (by omega) (by omega) (by omega) (k + 8), show rd [s0, s1, s2, s3] 1 = s1 from rfl, show (1 : Int) + 1 = 2 from rfl]
  have c1 := b1 (if (0 : Int) = kk then [] else [s0])
  rw [l0_step a b kk 2 [s0, s1, s2, s3] _ rfl (by omega) (by omega) (by omega) (k + 7), show rd [s0, s1, s2, s3] 2 = s2 from rfl, show (2 : Int) + 1 = 3 from rfl]
  have c2 := b2 (if (1 : Int) = kk then (if (0 : Int) = kk then [] else [s0]) else (if (0 : Int) = kk then [] else [s0]) ++ [s1])
  rw [l0_step a b kk 3 [s0, s1, s2, s3] _ rfl (by omega) (by omega) (by omega) (k + 6), show rd [s0, s1, s2, s3] 3 = s3 from rfl, show (3 : Int) + 1 = 4 from rfl, hT]
  simp only [rosarylaw10_SeatTaken.l0]
  rw [if_neg (by simp)]
  rw [l1_step a b kk 0 [s0, s1, s2, s3] t _ rfl (by omega) (by omega) hk0 hk1 (k + 4), hrd, show rd [s0, s1, s2, s3] 0 = s0 from rfl, show (0 : Int) + 1 = 1 from rfl]
  rw [l1_step a b kk 1 [s0, s1, s2, s3] t _ rfl (by omega) (by omega) hk0 hk1 (k + 3), hrd, show rd [s0, s1, s2, s3] 1 = s1 from rfl, show (1 : Int) + 1 = 2 from rfl]
  rw [l1_step a b kk 2 [s0, s1, s2, s3] t _ rfl (by omega) (by omega) hk0 hk1 (k + 2), hrd, show rd [s0, s1, s2, s3] 2 = s2 from rfl, show (2 : Int) + 1 = 3 from rfl]
  rw [l1_step a b kk 3 [s0, s1, s2, s3] t _ rfl (by omega) (by omega) hk0 hk1 (k + 1), hrd, show rd [s0, s1, s2, s3] 3 = s3 from rfl, show (3 : Int) + 1 = 4 from rfl]
  refine taken_end a b [s0, s1, s2, s3] t c kk e hl rfl h64 ht hS hk0 hk1 hrd hcS _ ?_ k hk
  by_cases hc : c ∈ t
  · exact .inl (htw hc)
  · exact .inr hc

theorem SeatTaken : rosarylaw10_SeatTaken.Pure := by
  intro a b free _ _ hf
  refine ⟨60, ?_⟩
  unfold rosarylaw10_SeatTaken.f
  rw [seats_eq a b 60 (by omega), Option.bind_some, if_pos (by simp [seats]), alive_eq 60 (by omega), Option.bind_some]
  simp only [rosarylaw10_SeatTaken.j0, Bool.not_true, Bool.false_eq_true, if_false]
  have h64 : ∀ x ∈ seats a b, In64 x := by
    intro x hx
    simp only [seats, List.mem_cons, List.not_mem_nil, or_false] at hx
    rcases hx with rfl | rfl | rfl | rfl <;> exact sn_in _ _ _
  obtain ⟨kk, hkk, hk0, hk1⟩ : ∃ kk, Int.tmod (wrap64 (Int.tmod free 4 + 4)) 4 = kk ∧ 0 ≤ kk ∧ kk < 4 := by
    have h1 : Int.tmod free 4 < 4 := Int.tmod_lt_of_pos _ (by omega)
    have h2 : -4 < Int.tmod free 4 := by
      have h3 : Int.tmod (-free) 4 < 4 := Int.tmod_lt_of_pos _ (by omega)
      rw [Int.neg_tmod] at h3; omega
    refine ⟨_, rfl, ?_, ?_⟩
    · rw [w64 (by omega) (by omega)]; exact Int.tmod_nonneg _ (by omega)
    · exact Int.tmod_lt_of_pos _ (by omega)
  rw [hkk]
  obtain ⟨s0, s1, s2, s3, hs⟩ : ∃ s0 s1 s2 s3, seats a b = [s0, s1, s2, s3] := ⟨_, _, _, _, rfl⟩
  rw [hs] at h64 ⊢
  rcases (show kk = 0 ∨ kk = 1 ∨ kk = 2 ∨ kk = 3 by omega) with rfl | rfl | rfl | rfl
  · refine taken_all a b s0 s1 s2 s3 0 s0 [s1, s2, s3] hs h64 (by omega) (by omega) (by simp) rfl ?_ ?_ rfl (by simp) ?_ 49 (by omega)
    · intro x hx; simp at hx ⊢; omega
    · intro x hx; simp at hx ⊢; omega
    · intro hc; simp at hc ⊢; omega
  · refine taken_all a b s0 s1 s2 s3 1 s1 [s0, s2, s3] hs h64 (by omega) (by omega) (by simp) rfl ?_ ?_ rfl (by simp) ?_ 49 (by omega)
    · intro x hx; simp at hx ⊢; omega
    · intro x hx; simp at hx ⊢; omega
    · intro hc; simp at hc ⊢; omega
  · refine taken_all a b s0 s1 s2 s3 2 s2 [s0, s1, s3] hs h64 (by omega) (by omega) (by simp) rfl ?_ ?_ rfl (by simp) ?_ 49 (by omega)
    · intro x hx; simp at hx ⊢; omega
    · intro x hx; simp at hx ⊢; omega
    · intro hc; simp at hc ⊢; omega
  · refine taken_all a b s0 s1 s2 s3 3 s3 [s0, s1, s2] hs h64 (by omega) (by omega) (by simp) rfl ?_ ?_ rfl (by simp) ?_ 49 (by omega)
    · intro x hx; simp at hx ⊢; omega
    · intro x hx; simp at hx ⊢; omega
    · intro hc; simp at hc ⊢; omega
end Go.Proofs.Ythomemhollhljaa.Pure
