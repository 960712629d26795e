/- What the functions of package ratio (and the document's) come to, as plain Lean: no program, no memory. -/
import Derived.Test.YtjenfohogjomdaaPx1
import Derived.Test.YtjenfohogjomdaaPx2
import Derived.Test.YtjenfohogjomdaaPx5
import Derived.Laws.Bits64
namespace Go.Proofs.Ytjenfohogjomdaa.Pure
open Go.RowKit Go.Proofs.Ytjenfohogjomdaa.P Go.Proofs.YtjenfohogjomdaaW.PrintWords Go.Proofs.YtjenfohogjomdaaW.PrintLast
set_option linter.unusedVariables false
set_option linter.unusedSimpArgs false

theorem drop_rd (l : List Int) (i : Int) (h0 : 0 ≤ i) (h : i < (l.length : Int)) : l.drop i.toNat = rd l i :: l.drop (i + 1).toNat := by
  have hn : i.toNat < l.length := by omega
  have e : (i + 1).toNat = i.toNat + 1 := by omega
  rw [e, List.drop_eq_getElem_cons hn]
  unfold rd
  rw [List.getD_eq_getElem?_getD, List.getElem?_eq_getElem hn]
  rfl

theorem w64 {n : Int} (h0 : -9223372036854775808 ≤ n) (h1 : n ≤ 9223372036854775807) : wrap64 n = n := by unfold wrap64; omega

def cnt (n : Int) : Bool := decide (0 ≤ n ∧ n ≤ 200)

theorem count_l (l : List Int) (hl : l.length ≤ maxLen) (d : Nat) : ∀ (k : Nat) (i : Int), 0 ≤ i → (l.length : Int) - i = d → d < k → ratio_count.l0 k true l (l.length : Int) i = some ((l.drop i.toNat).all cnt) := by
  unfold maxLen at hl
  induction d with
  | zero =>
    intro k i h0 hd hk
    obtain ⟨k, rfl⟩ : ∃ m, k = m + 1 := ⟨k - 1, by omega⟩
    simp only [ratio_count.l0]; rw [if_neg (by omega), List.drop_eq_nil_of_le (by omega)]; rfl
  | succ d ih =>
    intro k i h0 hd hk
    obtain ⟨k, rfl⟩ : ∃ m, k = m + 1 := ⟨k - 1, by omega⟩
    have hlt : i < (l.length : Int) := by omega
    simp only [ratio_count.l0]
    rw [if_pos hlt, if_pos h0, if_pos hlt, drop_rd l i h0 hlt, List.all_cons]
    by_cases h1 : rd l i < 0
    · rw [if_pos h1]; simp [cnt, show ¬ (0 ≤ rd l i) by omega]
    · rw [if_neg h1]
      by_cases h2 : rd l i > 200
      · rw [if_pos h2]; simp [cnt, show ¬ (rd l i ≤ 200) by omega]
      · rw [if_neg h2, w64 (by omega) (by omega), ih k (i + 1) (by omega) (by omega) (by omega)]
        simp [cnt, show 0 ≤ rd l i by omega, show rd l i ≤ 200 by omega]

theorem count_eq (l : List Int) (hl : l.length ≤ maxLen) (k : Nat) (hk : l.length < k) : ratio_count.f k l = some (l.all cnt) := by
  unfold ratio_count.f
  rw [count_l l hl l.length k 0 (by omega) (by omega) hk]; rfl

def sq (l : List Int) : Int := (l.map fun n => if n < 0 then 0 else n * n).sum

theorem sq_cons (n : Int) (l : List Int) : sq (n :: l) = (if n < 0 then 0 else n * n) + sq l := by simp [sq]

theorem wrap_sq (a n : Int) : IntKind.u64.wrap (IntKind.u64.wrap a + IntKind.u64.wrap (IntKind.u64.wrap n * IntKind.u64.wrap n)) = IntKind.u64.wrap (a + n * n) := by
  simp only [IntKind.wrap_u64]
  rw [← Int.mul_emod, ← Int.add_emod]

theorem pot_l (l : List Int) (hl : l.length ≤ maxLen) (d : Nat) : ∀ (k : Nat) (i a : Int), 0 ≤ i → (l.length : Int) - i = d → d < k → ratio_Potential.l0 k (IntKind.u64.wrap a) l (l.length : Int) i = some (IntKind.u64.wrap (a + sq (l.drop i.toNat))) := by
  unfold maxLen at hl
  induction d with
  | zero =>
    intro k i a h0 hd hk
    obtain ⟨k, rfl⟩ : ∃ m, k = m + 1 := ⟨k - 1, by omega⟩
    simp only [ratio_Potential.l0]; rw [if_neg (by omega), List.drop_eq_nil_of_le (by omega)]; simp [sq]
  | succ d ih =>
    intro k i a h0 hd hk
    obtain ⟨k, rfl⟩ : ∃ m, k = m + 1 := ⟨k - 1, by omega⟩
    have hlt : i < (l.length : Int) := by omega
    simp only [ratio_Potential.l0]
    rw [if_pos hlt, if_pos h0, if_pos hlt, drop_rd l i h0 hlt, sq_cons, w64 (by omega) (by omega)]
    by_cases h1 : rd l i < 0
    · rw [if_pos h1, if_pos h1, ih k (i + 1) a (by omega) (by omega) (by omega), Int.zero_add]
    · rw [if_neg h1, if_neg h1, wrap_sq, ih k (i + 1) _ (by omega) (by omega) (by omega), Int.add_assoc]

theorem pot_eq (l : List Int) (hl : l.length ≤ maxLen) (k : Nat) (hk : l.length < k) : ratio_Potential.f k l = some (IntKind.u64.wrap (sq l)) := by
  unfold ratio_Potential.f
  have := pot_l l hl l.length k 0 0 (by omega) (by omega) hk
  rw [show IntKind.u64.wrap 0 = 0 from rfl, Int.zero_add] at this
  exact this

def uneven (a b : Int) : Bool := decide (cnt a = true ∧ cnt b = true ∧ 2 ≤ b ∧ 5 * a < b)
def worth (a b m : Int) : Bool := decide (cnt a = true ∧ cnt b = true ∧ 1 ≤ m ∧ m ≤ b ∧ m < b - a)
def worthHop (a b m n : Int) : Bool := decide (cnt a = true ∧ cnt b = true ∧ cnt n = true ∧ 1 ≤ m ∧ m < b ∧ n * a < m * (b - m))

theorem cnt_iff (a : Int) : cnt a = true ↔ 0 ≤ a ∧ a ≤ 200 := by simp [cnt]

theorem mul_le_200 {x y : Int} (hx0 : 0 ≤ x) (hx : x ≤ 200) (hy0 : 0 ≤ y) (hy : y ≤ 200) : 0 ≤ x * y ∧ x * y ≤ 40000 :=
  ⟨Int.mul_nonneg hx0 hy0, Int.le_trans (Int.mul_le_mul_of_nonneg_right hx hy0) (by omega)⟩

theorem uneven_eq (a b : Int) (k : Nat) (hk : 4 ≤ k) : ratio_Uneven.f k a b = some (uneven a b) := by
  unfold ratio_Uneven.f
  rw [count_eq [a, b] (by simp [maxLen]) k (by simp; omega), Option.bind_some]
  simp only [List.all_cons, List.all_nil, Bool.and_true]
  by_cases ha : cnt a = true
  · by_cases hb : cnt b = true
    · have h1 := (cnt_iff a).1 ha
      have h2 := (cnt_iff b).1 hb
      rw [ha, hb, w64 (by omega) (by omega), w64 (by omega) (by omega)]
      simp only [Bool.and_true, if_true, uneven, ha, hb, true_and]
      by_cases h : b ≥ 2
      · rw [if_pos h]; simp [h]
      · rw [if_neg h]; simp [show ¬ 2 ≤ b by omega]
    · simp [uneven, hb]
  · simp [uneven, ha]

theorem worth_eq (a b m : Int) (k : Nat) (hk : 4 ≤ k) : ratio_Worth.f k a b m = some (worth a b m) := by
  unfold ratio_Worth.f
  rw [count_eq [a, b] (by simp [maxLen]) k (by simp; omega), Option.bind_some]
  simp only [List.all_cons, List.all_nil, Bool.and_true]
  by_cases ha : cnt a = true
  · by_cases hb : cnt b = true
    · have h1 := (cnt_iff a).1 ha
      have h2 := (cnt_iff b).1 hb
      rw [ha, hb, w64 (by omega) (by omega)]
      simp only [Bool.and_true, if_true, worth, ha, hb, true_and]
      by_cases h : m ≥ 1
      · rw [if_pos h]
        by_cases h' : m ≤ b
        · rw [if_pos h']; simp [h, h']
        · rw [if_neg h']; simp [h']
      · rw [if_neg h]; simp [show ¬ 1 ≤ m by omega]
    · simp [worth, hb]
  · simp [worth, ha]

theorem worthHop_eq (a b m n : Int) (k : Nat) (hk : 5 ≤ k) : ratio_WorthHop.f k a b m n = some (worthHop a b m n) := by
  unfold ratio_WorthHop.f
  rw [count_eq [a, b, n] (by simp [maxLen]) k (by simp; omega), Option.bind_some]
  simp only [List.all_cons, List.all_nil, Bool.and_true]
  by_cases ha : cnt a = true
  · by_cases hb : cnt b = true
    · by_cases hn : cnt n = true
      · have h1 := (cnt_iff a).1 ha
        have h2 := (cnt_iff b).1 hb
        have h3 := (cnt_iff n).1 hn
        rw [ha, hb, hn]
        simp only [Bool.and_true, if_true, worthHop, ha, hb, hn, true_and]
        by_cases h : m ≥ 1
        · rw [if_pos h]
          by_cases h' : m < b
          · have e1 := mul_le_200 h3.1 h3.2 h1.1 h1.2
            have e2 := mul_le_200 (x := m) (y := b - m) (by omega) (by omega) (by omega) (by omega)
            rw [if_pos h', w64 (n := b - m) (by omega) (by omega), w64 (by omega) (by omega), w64 (by omega) (by omega)]
            simp [h, h']
          · rw [if_neg h']; simp [h']
        · rw [if_neg h]; simp [show ¬ 1 ≤ m by omega]
      · simp [worthHop, hn]
    · simp [worthHop, hb]
  · simp [worthHop, ha]

theorem rcount_eq (a : Int) : rosaryref10_count.f a = some (cnt a) := by
  unfold rosaryref10_count.f cnt
  by_cases h : a ≥ 0
  · rw [if_pos h]; simp [h]
  · rw [if_neg h]; simp [show ¬ 0 ≤ a by omega]

theorem runeven_eq (a b : Int) : rosaryref10_Uneven.f a b = some (uneven a b) := by
  rw [← uneven_eq a b 4 (by omega)]
  unfold rosaryref10_Uneven.f ratio_Uneven.f
  rw [count_eq [a, b] (by simp [maxLen]) 4 (by simp), rcount_eq, rcount_eq]
  simp only [List.all_cons, List.all_nil, Bool.and_true]
  cases cnt a <;> cases cnt b <;> rfl

theorem rworth_eq (a b m : Int) : rosaryref10_Worth.f a b m = some (worth a b m) := by
  rw [← worth_eq a b m 4 (by omega)]
  unfold rosaryref10_Worth.f ratio_Worth.f
  rw [count_eq [a, b] (by simp [maxLen]) 4 (by simp), rcount_eq, rcount_eq]
  simp only [List.all_cons, List.all_nil, Bool.and_true]
  cases cnt a <;> cases cnt b <;> rfl

theorem rworthHop_eq (a b m n : Int) : rosaryref10_WorthHop.f a b m n = some (worthHop a b m n) := by
  rw [← worthHop_eq a b m n 5 (by omega)]
  unfold rosaryref10_WorthHop.f ratio_WorthHop.f
  rw [count_eq [a, b, n] (by simp [maxLen]) 5 (by simp), rcount_eq, rcount_eq, rcount_eq]
  simp only [List.all_cons, List.all_nil, Bool.and_true]
  cases cnt a <;> cases cnt b <;> cases cnt n <;> rfl

theorem alive_eq (k : Nat) (hk : 5 ≤ k) : rosarylaw18_alive.f k = some true := by
  unfold rosarylaw18_alive.f
  rw [uneven_eq _ _ k (by omega), uneven_eq _ _ k (by omega), uneven_eq _ _ k (by omega), worth_eq _ _ _ k (by omega), worth_eq _ _ _ k (by omega), pot_eq _ (by simp [maxLen]) k (by simp; omega)]
  rfl

end Go.Proofs.Ytjenfohogjomdaa.Pure
