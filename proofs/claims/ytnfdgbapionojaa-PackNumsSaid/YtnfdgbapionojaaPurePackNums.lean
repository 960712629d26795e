/- PackNums: numbers have two bytes, great ones eight, in the order of the numbers. For every input. -/
import Derived.Test.YtnfdgbapionojaaPx7
import Derived.Test.YtnfdgbapionojaaPackL
namespace Go.Proofs.Ytnfdgbapionojaa.Pure
open Go.RowKit Go.Proofs.Ytnfdgbapionojaa.P Go.Proofs.YtnfdgbapionojaaW.PrintWords Go.Proofs.YtnfdgbapionojaaW.PrintLast Go.Proofs.YtnfdgbapionojaaW.PrintMore
set_option linter.unusedVariables false
set_option linter.unusedSimpArgs false

theorem less_enc (a b n : Nat) : Op.bytesLess (enc a n) (enc b n) = decide (a % 256 ^ n < b % 256 ^ n) := by
  induction n with
  | zero => simp [enc, digs, Op.bytesLess, Nat.mod_one]
  | succ n ih =>
    rw [enc_succ, enc_succ]
    show (decide (UInt8.ofNat (a / 256 ^ n % 256) < UInt8.ofNat (b / 256 ^ n % 256)) || (UInt8.ofNat (a / 256 ^ n % 256) == UInt8.ofNat (b / 256 ^ n % 256) && Op.bytesLess (enc a n) (enc b n))) = _
    rw [ih, Nat.pow_succ, Nat.mod_mul, Nat.mod_mul]
    have ha : a / 256 ^ n % 256 < 256 := Nat.mod_lt _ (by omega)
    have hb : b / 256 ^ n % 256 < 256 := Nat.mod_lt _ (by omega)
    have la : a % 256 ^ n < 256 ^ n := Nat.mod_lt _ (Nat.pow_pos (by omega))
    have lb : b % 256 ^ n < 256 ^ n := Nat.mod_lt _ (Nat.pow_pos (by omega))
    generalize a / 256 ^ n % 256 = x at *
    generalize b / 256 ^ n % 256 = y at *
    generalize a % 256 ^ n = u at *
    generalize b % 256 ^ n = v at *
    generalize 256 ^ n = q at *
    have e1 : (UInt8.ofNat x < UInt8.ofNat y) ↔ x < y := by
      rw [UInt8.lt_iff_toNat_lt, UInt8.toNat_ofNat_of_lt' ha, UInt8.toNat_ofNat_of_lt' hb]
    have e2 : (UInt8.ofNat x = UInt8.ofNat y) ↔ x = y := by
      constructor
      · intro h
        have := congrArg UInt8.toNat h
        rwa [UInt8.toNat_ofNat_of_lt' ha, UInt8.toNat_ofNat_of_lt' hb] at this
      · intro h; rw [h]
    rw [Bool.eq_iff_iff]
    simp only [Bool.or_eq_true, Bool.and_eq_true, decide_eq_true_eq, beq_iff_eq, e1, e2]
    constructor
    · rintro (h | ⟨h, h'⟩)
      · have : q * (x + 1) ≤ q * y := Nat.mul_le_mul_left _ h
        rw [Nat.mul_add] at this
        omega
      · rw [h]; omega
    · intro h
      rcases Nat.lt_trichotomy x y with g | g | g
      · exact .inl g
      · right; rw [g] at h; exact ⟨g, by omega⟩
      · have : q * (y + 1) ≤ q * x := Nat.mul_le_mul_left _ g
        rw [Nat.mul_add] at this
        omega

theorem enc_inj (a b n : Nat) (ha : a < 256 ^ n) (hb : b < 256 ^ n) (h : enc a n = enc b n) : a = b := by
  have h1 := val_enc a n 0
  have h2 := val_enc b n 0
  rw [h, h2, Nat.mod_eq_of_lt ha, Nat.mod_eq_of_lt hb] at h1
  omega

theorem nums_wide (v w : Nat) (hv : v < 18446744073709551616) (hw : w < 18446744073709551616) : ∃ p q : List UInt8, (∀ k, 9 < k → pack_Wide.f k (v : Int) = some (mk p)) ∧ (∀ k, 9 < k → pack_Wide.f k (w : Int) = some (mk q)) ∧ p.length = 8 ∧ (Op.bytesLess p q == decide ((v : Int) < (w : Int))) = true ∧ ((p == q) == ((v : Int) == (w : Int))) = true := by
  have e8 : (256 : Nat) ^ 8 = 18446744073709551616 := by simp
  refine ⟨enc v 8, enc w 8, fun k hk => wide_eq v k hk, fun k hk => wide_eq w k hk, enc_length _ _, ?_, ?_⟩
  · rw [less_enc, e8, Nat.mod_eq_of_lt hv, Nat.mod_eq_of_lt hw]; simp
  · by_cases h : v = w
    · simp [h]
    · have h2 : ¬ enc v 8 = enc w 8 := fun g => h (enc_inj v w 8 (by rw [e8]; exact hv) (by rw [e8]; exact hw) g)
      have h3 : ((v : Int) == (w : Int)) = false := by simp; omega
      have h4 : (enc v 8 == enc w 8) = false := by simpa using h2
      rw [h3, h4]; rfl

theorem nums_two (a b : Nat) (ha : a ≤ 65535) (hb : b ≤ 65535) : Op.bytesLess (enc a 2) (enc b 2) = decide ((a : Int) < (b : Int)) := by
  rw [less_enc, Nat.mod_eq_of_lt (by omega), Nat.mod_eq_of_lt (by omega)]; simp

theorem wf_nat {n : Int} (h : (Lit.int .u64 n).wf = true) : ∃ m : Nat, n = (m : Int) ∧ m < 18446744073709551616 := by
  simp [Lit.wf, IntKind.min, IntKind.max, IntKind.bits, IntKind.signed] at h
  exact ⟨n.toNat, by omega, by omega⟩

theorem PackNums : rosarylaw3_PackNums.Pure := by
  intro a b v w _ _ hv hw
  refine ⟨60, ?_⟩
  unfold rosarylaw3_PackNums.f
  obtain ⟨v, rfl, hv'⟩ := wf_nat hv
  obtain ⟨w, rfl, hw'⟩ := wf_nat hw
  obtain ⟨p, q, hp, hq, h8, hl, he⟩ := nums_wide v w hv' hw'
  have fin : ∀ x10 : Bool, x10 = decide (0 ≤ a ∧ a ≤ 65535) → rosarylaw3_PackNums.j0 60 a (v : Int) (w : Int) x10 false = some true := by
    intro x10 hx
    simp only [rosarylaw3_PackNums.j0, Bool.false_eq_true, if_false]
    rw [hp 59 (by omega), hq 59 (by omega)]
    simp only [Option.bind_some, mk_size, mk_toList, h8, hl, he, if_true]
    by_cases h0 : a ≥ 0
    · rw [if_pos h0, hx]; simp [h0]
    · rw [if_neg h0, hx]; simp [h0]
  rw [alive_eq 60 (by omega)]
  by_cases ha : 0 ≤ a ∧ a ≤ 65535
  · obtain ⟨a, rfl⟩ : ∃ n : Nat, a = (n : Int) := ⟨a.toNat, by omega⟩
    rw [num_yes a (by omega) 60 (by omega)]
    by_cases hb : 0 ≤ b ∧ b ≤ 65535
    · obtain ⟨b, rfl⟩ : ∃ n : Nat, b = (n : Int) := ⟨b.toNat, by omega⟩
      rw [num_yes b (by omega) 60 (by omega)]
      simp only [Option.bind_some, if_true, mk_size, enc_length, mk_toList, nums_two a b (by omega) (by omega), bne_self_eq_false]
      exact fin true (by simp; omega)
    · rw [num_no b (by omega) 60]
      simp only [Option.bind_some, if_true, Bool.false_eq_true, if_false]
      exact fin true (by simp; omega)
  · rw [num_no a (by omega) 60]
    obtain ⟨y, hy⟩ : ∃ y, pack_Num.f 60 b = some y := by
      by_cases hb : 0 ≤ b ∧ b ≤ 65535
      · obtain ⟨b, rfl⟩ : ∃ n : Nat, b = (n : Int) := ⟨b.toNat, by omega⟩
        exact ⟨_, num_yes b (by omega) 60 (by omega)⟩
      · exact ⟨_, num_no b (by omega) 60⟩
    rw [hy]
    simp only [Option.bind_some, if_true, Bool.false_eq_true, if_false]
    exact fin false (by rw [decide_eq_false ha])
end Go.Proofs.Ytnfdgbapionojaa.Pure
