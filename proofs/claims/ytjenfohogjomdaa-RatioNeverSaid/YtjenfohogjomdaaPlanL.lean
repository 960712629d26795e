/- What ratio.Plan, and the document's, come to, as plain Lean. -/
import Derived.Test.YtjenfohogjomdaaPx7
import Derived.Test.YtjenfohogjomdaaPx8
import Derived.Test.YtjenfohogjomdaaPx9
import Derived.Test.YtjenfohogjomdaaRatioL
namespace Go.Proofs.Ytjenfohogjomdaa.Pure
open Go.RowKit Go.Proofs.Ytjenfohogjomdaa.P Go.Proofs.YtjenfohogjomdaaW.PrintWords Go.Proofs.YtjenfohogjomdaaW.PrintLast
set_option linter.unusedVariables false
set_option linter.unusedSimpArgs false

def foll (a b c d : Int) : Bool := decide (b = c ∧ a ≠ b ∧ c ≠ d)
theorem follows_eq (a b c d : Int) : ratio_follows.f a b c d = some (foll a b c d) := by
  unfold ratio_follows.f arc_Whole.f foll
  by_cases h1 : b = c
  · rw [if_pos h1, Option.bind_some]
    by_cases h2 : a = b
    · simp [h2]
    · have e2 : (a == b) = false := by simpa using h2
      rw [e2]
      by_cases h3 : c = d
      · simp [h3]
      · have e3 : (c == d) = false := by simpa using h3
        simp [e3, h1, h2, h3]
        omega
  · simp [h1]

def plan (m0 m1 m2 m3 h0 h1 h2 n2 a b low mine : Int) : Int :=
  if uneven a b = false ∨ low < 1 ∨ low > b - 1 then 0
  else if m3 < 0 ∨ foll m0 m1 h0 h1 = true then (if worth a b low = true then 1 else 0)
  else if foll h0 h1 m0 m1 = true then (if worth a b (b - low) = true then 2 else 0)
  else if n2 ≠ h2 ∧ n2 ≠ m2 ∧ mine ≤ b ∧ worthHop a b low mine = true then 3 else 0

theorem uneven_bd {a b : Int} (h : uneven a b = true) : 0 ≤ a ∧ a ≤ 200 ∧ 2 ≤ b ∧ b ≤ 200 := by
  simp [uneven, cnt] at h; omega

theorem plan_eq (m0 m1 m2 m3 h0 h1 h2 h3 n0 n1 n2 n3 a b low mine : Int) (k : Nat) (hk : 10 ≤ k) :
    ratio_Plan.f k m0 m1 m2 m3 h0 h1 h2 h3 n0 n1 n2 n3 a b low mine = some (plan m0 m1 m2 m3 h0 h1 h2 n2 a b low mine) := by
  obtain ⟨k, rfl⟩ : ∃ j, k = j + 10 := ⟨k - 10, by omega⟩
  cases hu : uneven a b with
  | false => simp [ratio_Plan.f, uneven_eq, hu, plan, ratio_Plan.j0]
  | true =>
    have hb := uneven_bd hu
    by_cases c1 : low < 1
    · simp [ratio_Plan.f, uneven_eq, hu, plan, ratio_Plan.j0, c1]
    by_cases c2 : low > b - 1
    · simp [ratio_Plan.f, uneven_eq, hu, plan, ratio_Plan.j0, c1, w64 (n := b - 1) (by omega) (by omega), c2]
    have e1 : wrap64 (b - 1) = b - 1 := w64 (by omega) (by omega)
    have e2 : wrap64 (b - low) = b - low := w64 (by omega) (by omega)
    by_cases c3 : m3 < 0
    · simp only [ratio_Plan.f, uneven_eq, hu, plan, ratio_Plan.j0, ratio_Plan.j1, c1, c2, c3, e1, worth_eq, Nat.reduceLeDiff, Option.bind_some, if_true, if_false, decide_false, Bool.false_eq_true, reduceCtorEq, or_self, or_false, true_or]
      cases worth a b low <;> rfl
    cases c4 : foll m0 m1 h0 h1 with
    | true =>
      simp only [ratio_Plan.f, uneven_eq, hu, plan, ratio_Plan.j0, ratio_Plan.j1, follows_eq, c1, c2, c3, c4, e1, worth_eq, Nat.reduceLeDiff, Option.bind_some, if_true, if_false, decide_false, Bool.false_eq_true, reduceCtorEq, or_self, or_false, or_true]
      cases worth a b low <;> rfl
    | false =>
      cases c5 : foll h0 h1 m0 m1 with
      | true =>
        simp only [ratio_Plan.f, uneven_eq, hu, plan, ratio_Plan.j0, ratio_Plan.j1, follows_eq, c1, c2, c3, c4, c5, e1, e2, worth_eq, Nat.reduceLeDiff, Option.bind_some, if_true, if_false, decide_false, Bool.false_eq_true, reduceCtorEq, or_self, or_false, or_true]
        cases worth a b (b - low) <;> rfl
      | false =>
        simp only [ratio_Plan.f, uneven_eq, hu, plan, ratio_Plan.j0, ratio_Plan.j1, ratio_Plan.j2, follows_eq, c1, c2, c3, c4, c5, e1, worthHop_eq, Nat.reduceLeDiff, Option.bind_some, if_true, if_false, decide_false, Bool.false_eq_true, reduceCtorEq, or_self, or_false, or_true]
        by_cases c6 : n2 = h2
        · simp [c6]
        by_cases c7 : n2 = m2
        · simp [c7]
        by_cases c8 : mine ≤ b
        · simp only [c6, c7, c8, if_false, decide_true, if_true, ne_eq, not_false_eq_true, true_and]
          cases worthHop a b low mine <;> rfl
        · simp [c6, c7, c8]

theorem rplan_eq (m0 m1 m2 m3 h0 h1 h2 h3 n0 n1 n2 n3 a b low mine : Int) (k : Nat) (hk : 10 ≤ k) :
    rosaryref10_Plan.f k m0 m1 m2 m3 h0 h1 h2 h3 n0 n1 n2 n3 a b low mine = some (plan m0 m1 m2 m3 h0 h1 h2 n2 a b low mine) := by
  obtain ⟨k, rfl⟩ : ∃ j, k = j + 10 := ⟨k - 10, by omega⟩
  cases hu : uneven a b with
  | false => simp [rosaryref10_Plan.f, runeven_eq, hu, plan, rosaryref10_Plan.j0]
  | true =>
    have hb := uneven_bd hu
    by_cases c1 : low < 1
    · simp [rosaryref10_Plan.f, runeven_eq, hu, plan, rosaryref10_Plan.j0, c1]
    have e1 : wrap64 (b - 1) = b - 1 := w64 (by omega) (by omega)
    by_cases c2 : low > b - 1
    · simp [rosaryref10_Plan.f, runeven_eq, hu, plan, rosaryref10_Plan.j0, c1, e1, c2]
    have e2 : wrap64 (b - low) = b - low := w64 (by omega) (by omega)
    simp only [rosaryref10_Plan.f, runeven_eq, hu, plan, rosaryref10_Plan.j0, c1, c2, e1, Option.bind_some, if_true, if_false, decide_false, Bool.false_eq_true, reduceCtorEq, or_self]
    unfold foll
    by_cases c3 : m3 < 0
    · by_cases d1 : m0 = m1 <;> simp only [rosaryref10_Plan.j1, rosaryref10_Plan.j2, rworth_eq, Option.bind_some, if_true, if_false, c3, d1, true_or] <;> cases worth a b low <;> rfl
    · by_cases d1 : m0 = m1
      · simp only [d1, rosaryref10_Plan.j1, rosaryref10_Plan.j2, rosaryref10_Plan.j3, rworth_eq, rworthHop_eq, Option.bind_some, if_true, if_false, c3, Bool.false_eq_true, ne_eq, not_true_eq_false, false_and, and_false, decide_false, or_self]
        by_cases c6 : n2 = h2
        · simp [c6]
        by_cases c7 : n2 = m2
        · simp [c7]
        by_cases c8 : mine ≤ b
        · simp only [c6, c7, c8, if_false, if_true, not_false_eq_true, true_and]; split <;> rfl
        · simp [c6, c7, c8]
      · by_cases d2 : h0 = h1
        · simp only [d1, d2, bne_self_eq_false, rosaryref10_Plan.j1, rosaryref10_Plan.j2, rosaryref10_Plan.j3, rworth_eq, rworthHop_eq, Option.bind_some, if_true, if_false, c3, Bool.false_eq_true, ne_eq, not_true_eq_false, false_and, and_false, decide_false, or_self]
          by_cases c6 : n2 = h2
          · simp [c6]
          by_cases c7 : n2 = m2
          · simp [c7]
          by_cases c8 : mine ≤ b
          · simp only [c6, c7, c8, if_false, if_true, not_false_eq_true, true_and]; split <;> rfl
          · simp [c6, c7, c8]
        · have e3 : (h0 != h1) = true := by simpa using d2
          simp only [d1, d2, e3, rosaryref10_Plan.j1, rosaryref10_Plan.j2, rosaryref10_Plan.j3, rworth_eq, rworthHop_eq, Option.bind_some, if_true, if_false, c3, ne_eq, not_false_eq_true, and_true, false_or, e2]
          by_cases c4 : m1 = h0
          · simp only [c4, beq_self_eq_true, if_true, decide_true]; split <;> rfl
          · have e4 : (m1 == h0) = false := by simpa using c4
            simp only [c4, e4, Bool.false_eq_true, if_false, decide_false]
            by_cases c5 : h1 = m0
            · simp only [c5, beq_self_eq_true, if_true, decide_true]; split <;> rfl
            · have e5 : (h1 == m0) = false := by simpa using c5
              simp only [c5, e5, Bool.false_eq_true, if_false, decide_false]
              by_cases c6 : n2 = h2
              · simp [c6]
              by_cases c7 : n2 = m2
              · simp [c7]
              by_cases c8 : mine ≤ b
              · simp only [c6, c7, c8, if_false, if_true, not_false_eq_true, true_and]; split <;> rfl
              · simp [c6, c7, c8]
end Go.Proofs.Ytjenfohogjomdaa.Pure
