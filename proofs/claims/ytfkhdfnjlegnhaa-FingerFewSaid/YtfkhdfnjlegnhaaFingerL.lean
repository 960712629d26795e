/- What the functions of package finger come to, as plain Lean: no program, no memory. -/
import Derived.Test.YtfkhdfnjlegnhaaPx5
import Derived.Test.YtfkhdfnjlegnhaaPx6
import Derived.Laws.Bits64
namespace Go.Proofs.Ytfkhdfnjlegnhaa.Pure
open Go.RowKit Go.Proofs.Ytfkhdfnjlegnhaa.P Go.Proofs.YtfkhdfnjlegnhaaW.PrintWords Go.Proofs.YtfkhdfnjlegnhaaW.PrintLast Go.Proofs.YtfkhdfnjlegnhaaW.PrintMore
set_option linter.unusedVariables false
set_option linter.unusedSimpArgs false

theorem drop_rd (l : List Int) (i : Int) (h0 : 0 ≤ i) (h : i < (l.length : Int)) : l.drop i.toNat = rd l i :: l.drop (i + 1).toNat := by
  have hn : i.toNat < l.length := by omega
  have e : (i + 1).toNat = i.toNat + 1 := by omega
  rw [e, List.drop_eq_getElem_cons hn]
  unfold rd
  rw [List.getD_eq_getElem?_getD, List.getElem?_eq_getElem hn]
  rfl

theorem rd_mem (l : List Int) (i : Int) (h0 : 0 ≤ i) (h : i < (l.length : Int)) : rd l i ∈ l := by
  have hn : i.toNat < l.length := by omega
  unfold rd
  rw [List.getD_eq_getElem?_getD, List.getElem?_eq_getElem hn]
  simp

theorem w64 {n : Int} (h0 : -9223372036854775808 ≤ n) (h1 : n ≤ 9223372036854775807) : wrap64 n = n := by unfold wrap64; omega

def In64 (x : Int) : Prop := 0 ≤ x ∧ x < 18446744073709551616
theorem wf_u64 {n : Int} (h : (Lit.int .u64 n).wf = true) : In64 n := by
  simp [Lit.wf, IntKind.min, IntKind.max, IntKind.bits, IntKind.signed] at h
  unfold In64
  omega
def far (a b : Int) : Int := (b - a) % 18446744073709551616
theorem far_eq (a b : Int) : seat_Far.f a b = some (far a b) := by unfold seat_Far.f far; rw [IntKind.wrap_u64]
theorem far_wrap (a b : Int) : IntKind.u64.wrap (b - a) = far a b := by unfold far; rw [IntKind.wrap_u64]
theorem far_nonneg (a b : Int) : 0 ≤ far a b := Int.emod_nonneg _ (by decide)
theorem far_lt (a b : Int) : far a b < 18446744073709551616 := Int.emod_lt_of_pos _ (by decide)
theorem far_self (a : Int) : far a a = 0 := by unfold far; omega
theorem far_zero {a b : Int} (ha : In64 a) (hb : In64 b) (h : far a b = 0) : a = b := by unfold far at h; unfold In64 at *; omega
/-- On the way from p, at or ahead of b: the way from a place between. -/
theorem far_split {p a b : Int} (h : far p a ≤ far p b) : far a b = far p b - far p a := by unfold far at *; omega
theorem far_behind {p a b : Int} (h : far p b < far p a) : far p b < far a b := by unfold far at *; omega
theorem far_inj {a b t : Int} (ha : In64 a) (hb : In64 b) (h : far a t = far b t) : a = b := by unfold far at h; unfold In64 at *; omega
theorem far_inj' {a b t : Int} (ha : In64 a) (hb : In64 b) (h : far t a = far t b) : a = b := by unfold far at h; unfold In64 at *; omega

/-! ### first -/
def firstL (a b : Int) (l : List Int) : Int := l.foldl (fun b s => if far a s < far a b then s else b) b
def first (a : Int) (l : List Int) : Int := firstL a (rd l 0) l

theorem first_l (a : Int) (l : List Int) (hl : l.length ≤ maxLen) (d : Nat) : ∀ (k : Nat) (i m : Int), 0 ≤ i → (l.length : Int) - i = d → d < k → finger_first.l0 k a m l (l.length : Int) i = some (firstL a m (l.drop i.toNat)) := by
  unfold maxLen at hl
  induction d with
  | zero =>
    intro k i m h0 hd hk
    obtain ⟨k, rfl⟩ : ∃ m, k = m + 1 := ⟨k - 1, by omega⟩
    simp only [finger_first.l0]; rw [if_neg (by omega), List.drop_eq_nil_of_le (by omega)]; rfl
  | succ d ih =>
    intro k i m h0 hd hk
    obtain ⟨k, rfl⟩ : ∃ m, k = m + 1 := ⟨k - 1, by omega⟩
    have hlt : i < (l.length : Int) := by omega
    simp only [finger_first.l0]
    rw [if_pos hlt, if_pos h0, if_pos hlt, far_eq, far_eq, Option.bind_some, Option.bind_some, w64 (by omega) (by omega), drop_rd l i h0 hlt]
    show _ = some (firstL a (if far a (rd l i) < far a m then rd l i else m) (l.drop (i + 1).toNat))
    by_cases c : far a (rd l i) < far a m
    · rw [if_pos c, if_pos c, ih k (i + 1) _ (by omega) (by omega) (by omega)]
    · rw [if_neg c, if_neg c, ih k (i + 1) _ (by omega) (by omega) (by omega)]

theorem first_eq (a : Int) (l : List Int) (hl : l.length ≤ maxLen) (hp : 0 < l.length) (k : Nat) (hk : l.length < k) : finger_first.f k a l = some (first a l) := by
  unfold finger_first.f first
  rw [if_pos (by omega), first_l a l hl l.length k 0 _ (by omega) (by omega) hk]
  rfl

theorem firstL_spec (a : Int) : ∀ (l : List Int) (b : Int), (firstL a b l = b ∨ firstL a b l ∈ l) ∧ far a (firstL a b l) ≤ far a b ∧ ∀ x ∈ l, far a (firstL a b l) ≤ far a x
  | [], b => ⟨.inl rfl, Int.le_refl _, by simp⟩
  | y :: l, b => by
    obtain ⟨h1, h2, h3⟩ := firstL_spec a l (if far a y < far a b then y else b)
    have e : firstL a b (y :: l) = firstL a (if far a y < far a b then y else b) l := rfl
    rw [e]
    have g : far a (if far a y < far a b then y else b) ≤ far a b ∧ far a (if far a y < far a b then y else b) ≤ far a y := by
      by_cases c : far a y < far a b
      · rw [if_pos c]; omega
      · rw [if_neg c]; omega
    refine ⟨?_, by omega, fun x hx => ?_⟩
    · rcases h1 with h1 | h1
      · rw [h1]
        by_cases c : far a y < far a b
        · rw [if_pos c]; exact .inr (by simp)
        · rw [if_neg c]; exact .inl rfl
      · exact .inr (by simp [h1])
    · rcases List.mem_cons.1 hx with rfl | hx
      · omega
      · exact h3 x hx

theorem first_spec (a : Int) (l : List Int) (hp : 0 < l.length) : first a l ∈ l ∧ ∀ x ∈ l, far a (first a l) ≤ far a x := by
  obtain ⟨h1, _, h3⟩ := firstL_spec a l (rd l 0)
  refine ⟨?_, h3⟩
  rcases h1 with h1 | h1
  · unfold first; rw [h1]; exact rd_mem l 0 (by omega) (by omega)
  · exact h1

/-! ### slices.Contains -/
theorem index_l (x : Int) (l : List Int) (hl : l.length ≤ maxLen) (d : Nat) : ∀ (k : Nat) (i : Int), 0 ≤ i → (l.length : Int) - i = d → d < k →
    ∃ r, slices_Index_uint64_uint64.l0 k l x (l.length : Int) i = some r ∧ (r ≥ 0 ↔ x ∈ l.drop i.toNat) := by
  unfold maxLen at hl
  induction d with
  | zero =>
    intro k i h0 hd hk
    obtain ⟨k, rfl⟩ : ∃ m, k = m + 1 := ⟨k - 1, by omega⟩
    refine ⟨-1, ?_, ?_⟩
    · simp only [slices_Index_uint64_uint64.l0]; rw [if_neg (by omega)]
    · rw [List.drop_eq_nil_of_le (by omega)]; simp
  | succ d ih =>
    intro k i h0 hd hk
    obtain ⟨k, rfl⟩ : ∃ m, k = m + 1 := ⟨k - 1, by omega⟩
    have hlt : i < (l.length : Int) := by omega
    simp only [slices_Index_uint64_uint64.l0]
    rw [if_pos hlt, if_pos h0, if_pos hlt, w64 (by omega) (by omega), drop_rd l i h0 hlt]
    by_cases c : x = rd l i
    · exact ⟨i, by rw [if_pos c], by simp [c]; omega⟩
    · obtain ⟨r, hr, h⟩ := ih k (i + 1) (by omega) (by omega) (by omega)
      exact ⟨r, by rw [if_neg c, hr], by rw [h]; simp [c]⟩

theorem contains_eq (l : List Int) (x : Int) (hl : l.length ≤ maxLen) (k : Nat) (hk : l.length < k) : slices_Contains_uint64_uint64.f k l x = some (decide (x ∈ l)) := by
  unfold slices_Contains_uint64_uint64.f slices_Index_uint64_uint64.f
  obtain ⟨r, hr, h⟩ := index_l x l hl l.length k 0 (by omega) (by omega) hk
  rw [hr, Option.bind_some]
  congr 1
  rw [decide_eq_decide, h]
  rfl

/-! ### Fingers -/
def fk (me : Int) (S : List Int) (j : Nat) : Int := first ((me + 2 ^ j) % 18446744073709551616) S
def step (me : Int) (S : List Int) (out : List Int) (j : Nat) : List Int := if fk me S j = me then out else if fk me S j ∈ out then out else out ++ [fk me S j]
def fing (me : Int) (S : List Int) : Nat → List Int
  | 0 => []
  | j + 1 => step me S (fing me S j) j

theorem fing_spec (me : Int) (S : List Int) (hp : 0 < S.length) (j : Nat) : (fing me S j).length ≤ j ∧ (fing me S j).Nodup ∧ (∀ x ∈ fing me S j, x ∈ S ∧ x ≠ me) ∧ ∀ i, i < j → fk me S i = me ∨ fk me S i ∈ fing me S j := by
  induction j with
  | zero => exact ⟨by simp [fing], by simp [fing], by simp [fing], by omega⟩
  | succ j ih =>
    obtain ⟨h1, h2, h3, h4⟩ := ih
    have hf : fk me S j ∈ S := (first_spec _ S hp).1
    unfold fing step
    by_cases c1 : fk me S j = me
    · rw [if_pos c1]
      refine ⟨by omega, h2, h3, fun i hi => ?_⟩
      rcases Nat.lt_or_ge i j with g | g
      · exact h4 i g
      · rw [show i = j by omega]; exact .inl c1
    · rw [if_neg c1]
      by_cases c2 : fk me S j ∈ fing me S j
      · rw [if_pos c2]
        refine ⟨by omega, h2, h3, fun i hi => ?_⟩
        rcases Nat.lt_or_ge i j with g | g
        · exact h4 i g
        · rw [show i = j by omega]; exact .inr c2
      · rw [if_neg c2]
        refine ⟨by simp; omega, ?_, ?_, fun i hi => ?_⟩
        · rw [List.nodup_append]
          refine ⟨h2, by simp, ?_⟩
          intro x hx y hy
          simp at hy
          rw [hy]
          exact fun e => c2 (e ▸ hx)
        · intro x hx
          rcases List.mem_append.1 hx with hx | hx
          · exact h3 x hx
          · simp at hx; rw [hx]; exact ⟨hf, c1⟩
        · rcases Nat.lt_or_ge i j with g | g
          · rcases h4 i g with h | h
            · exact .inl h
            · exact .inr (by simp [h])
          · rw [show i = j by omega]; exact .inr (by simp)

theorem pow_cases (j : Nat) (hj : j < 64) : (2 : Int) ^ j < 18446744073709551616 ∧ 1 ≤ (2 : Int) ^ j := by
  have h1 : (2 : Nat) ^ j < 2 ^ 64 := Nat.pow_lt_pow_right (by omega) hj
  have h2 : 1 ≤ (2 : Nat) ^ j := Nat.one_le_two_pow
  have e : ((2 ^ j : Nat) : Int) = (2 : Int) ^ j := by simp
  have e2 : (2 : Nat) ^ 64 = 18446744073709551616 := by simp
  omega

theorem shl_eq (j : Nat) (hj : j < 64) : shl .u64 1 (j : Int) = 2 ^ j := by
  unfold shl
  have := pow_cases j hj
  rw [show IntKind.bits .u64 = 64 from rfl, Int.toNat_natCast, Nat.min_eq_left (by omega), Int.one_mul, IntKind.wrap_u64]
  omega

theorem arg_eq (me : Int) (j : Nat) (hj : j < 64) : IntKind.u64.wrap (me + shl .u64 1 (j : Int)) = (me + 2 ^ j) % 18446744073709551616 := by rw [shl_eq j hj, IntKind.wrap_u64]

theorem fing_l (me : Int) (S E : List Int) (hE : ∀ j, j = 64 → fing me S j = E) (hS : S.length ≤ maxLen) (hp : 0 < S.length) (d : Nat) : ∀ (k j : Nat), 64 - j = d → j ≤ 64 → d + S.length + 70 < k → finger_Fingers.l0 k me S (fing me S j) (j : Int) = some E := by
  induction d with
  | zero =>
    intro k j hd hj hk
    obtain ⟨k, rfl⟩ : ∃ m, k = m + 1 := ⟨k - 1, by omega⟩
    have := hE j (by omega)
    simp only [finger_Fingers.l0]; rw [if_neg (by omega), this]
  | succ d ih =>
    intro k j hd hj hk
    obtain ⟨k, rfl⟩ : ∃ m, k = m + 1 := ⟨k - 1, by omega⟩
    obtain ⟨h1, h2, h3, h4⟩ := fing_spec me S hp j
    simp only [finger_Fingers.l0]
    have hj' : j < 64 := by omega
    have e2 : wrap64 ((j : Int) + 1) = ((j + 1 : Nat) : Int) := by rw [w64 (by omega) (by omega)]; omega
    have hk' : S.length < k := by omega
    rw [if_pos (by omega), if_pos (by omega), arg_eq me j hj', first_eq _ S hS hp k hk', Option.bind_some, e2]
    have hn := ih k (j + 1) (by omega) (by omega) (by omega)
    rw [show fing me S (j + 1) = step me S (fing me S j) j from rfl] at hn
    unfold step at hn
    rw [show first ((me + 2 ^ j) % 18446744073709551616) S = fk me S j from rfl]
    by_cases c1 : fk me S j = me
    · rw [if_pos c1] at hn ⊢
      exact hn
    · rw [if_neg c1] at hn ⊢
      rw [contains_eq _ _ (by unfold maxLen; omega) k (by omega), Option.bind_some]
      by_cases c2 : fk me S j ∈ fing me S j
      · rw [if_pos c2] at hn
        rw [if_pos (by simpa using c2)]
        exact hn
      · rw [if_neg c2] at hn
        rw [if_neg (by simpa using c2), if_pos (by omega)]
        exact hn

def fingers (me : Int) (S : List Int) : List Int := if S.length = 0 then [] else fing me S 64
theorem fingers_eq (me : Int) (S : List Int) (hS : S.length ≤ maxLen) (k : Nat) (hk : S.length + 140 < k) : finger_Fingers.f k me S = some (fingers me S) := by
  unfold finger_Fingers.f fingers
  by_cases h : S.length = 0
  · rw [if_pos (by omega), if_pos h]
  · rw [if_neg (by omega), if_neg h]
    exact fing_l me S _ (fun j hj => by rw [hj]) hS (by omega) 64 k 0 (by omega) (by omega) (by omega)

theorem fingers_spec (me : Int) (S : List Int) : (fingers me S).length ≤ 64 ∧ (fingers me S).Nodup ∧ (∀ x ∈ fingers me S, x ∈ S ∧ x ≠ me) ∧ (0 < S.length → ∀ i, i < 64 → fk me S i = me ∨ fk me S i ∈ fingers me S) := by
  unfold fingers
  by_cases h : S.length = 0
  · rw [if_pos h]; exact ⟨by simp, by simp, by simp, by omega⟩
  · rw [if_neg h]
    obtain ⟨h1, h2, h3, h4⟩ := fing_spec me S (by omega) 64
    exact ⟨h1, h2, h3, fun _ => h4⟩

/-! ### Hop -/
def hopL (me tt : Int) (b : Int × Int) (l : List Int) : Int × Int := l.foldl (fun b f => if far me f > b.2 ∧ far me f ≤ far me tt then (f, far me f) else b) b

theorem hop_l (me tt : Int) (l : List Int) (hl : l.length ≤ maxLen) (d : Nat) : ∀ (k : Nat) (i : Int) (b : Int × Int), 0 ≤ i → (l.length : Int) - i = d → d < k → finger_Hop.l0 k me tt b.1 b.2 l (l.length : Int) i = some ((hopL me tt b (l.drop i.toNat)).1, decide ((hopL me tt b (l.drop i.toNat)).2 > 0)) := by
  unfold maxLen at hl
  induction d with
  | zero =>
    intro k i b h0 hd hk
    obtain ⟨k, rfl⟩ : ∃ m, k = m + 1 := ⟨k - 1, by omega⟩
    simp only [finger_Hop.l0]; rw [if_neg (by omega), List.drop_eq_nil_of_le (by omega)]; rfl
  | succ d ih =>
    intro k i b h0 hd hk
    obtain ⟨k, rfl⟩ : ∃ m, k = m + 1 := ⟨k - 1, by omega⟩
    have hlt : i < (l.length : Int) := by omega
    simp only [finger_Hop.l0]
    rw [if_pos hlt, if_pos h0, if_pos hlt, far_eq, far_eq, Option.bind_some, w64 (by omega) (by omega), drop_rd l i h0 hlt]
    have e : hopL me tt b (rd l i :: l.drop (i + 1).toNat) = hopL me tt (if far me (rd l i) > b.2 ∧ far me (rd l i) ≤ far me tt then (rd l i, far me (rd l i)) else b) (l.drop (i + 1).toNat) := rfl
    rw [e]
    by_cases c1 : far me (rd l i) > b.2
    · rw [if_pos c1, Option.bind_some]
      by_cases c2 : far me (rd l i) ≤ far me tt
      · rw [if_pos c2, if_pos ⟨c1, c2⟩, ← ih k (i + 1) _ (by omega) (by omega) (by omega)]
      · rw [if_neg c2, if_neg (fun h => c2 h.2), ih k (i + 1) b (by omega) (by omega) (by omega)]
    · rw [if_neg c1, if_neg (fun h => c1 h.1), ih k (i + 1) b (by omega) (by omega) (by omega)]

theorem hopL_spec (me tt : Int) : ∀ (l : List Int) (b : Int × Int), b.2 ≤ (hopL me tt b l).2 ∧ (∀ x ∈ l, far me x ≤ far me tt → far me x ≤ (hopL me tt b l).2) ∧ (hopL me tt b l = b ∨ ((hopL me tt b l).1 ∈ l ∧ (hopL me tt b l).2 = far me (hopL me tt b l).1 ∧ far me (hopL me tt b l).1 ≤ far me tt ∧ b.2 < (hopL me tt b l).2))
  | [], b => ⟨Int.le_refl _, by simp, .inl rfl⟩
  | y :: l, b => by
    have e : hopL me tt b (y :: l) = hopL me tt (if far me y > b.2 ∧ far me y ≤ far me tt then (y, far me y) else b) l := rfl
    obtain ⟨h1, h2, h3⟩ := hopL_spec me tt l (if far me y > b.2 ∧ far me y ≤ far me tt then (y, far me y) else b)
    rw [e]
    by_cases c : far me y > b.2 ∧ far me y ≤ far me tt
    · rw [if_pos c] at h1 h2 h3 ⊢
      simp only at h1 h3
      refine ⟨by omega, fun x hx hle => ?_, ?_⟩
      · rcases List.mem_cons.1 hx with rfl | hx
        · exact h1
        · exact h2 x hx hle
      · right
        rcases h3 with h3 | ⟨h3, h4, h5, h6⟩
        · rw [h3]; exact ⟨by simp, rfl, c.2, c.1⟩
        · exact ⟨by simp [h3], h4, h5, by omega⟩
    · rw [if_neg c] at h1 h2 h3 ⊢
      refine ⟨h1, fun x hx hle => ?_, ?_⟩
      · rcases List.mem_cons.1 hx with rfl | hx
        · have : ¬ far me x > b.2 := fun g => c ⟨g, hle⟩
          omega
        · exact h2 x hx hle
      · rcases h3 with h3 | ⟨h3, h4⟩
        · exact .inl h3
        · exact .inr ⟨by simp [h3], h4⟩

def hop (me tt : Int) (l : List Int) : Int × Int := hopL me tt (0, 0) l
theorem hop_eq (me tt : Int) (l : List Int) (hl : l.length ≤ maxLen) (k : Nat) (hk : l.length < k) : finger_Hop.f k me tt l = some ((hop me tt l).1, decide ((hop me tt l).2 > 0)) := by
  unfold finger_Hop.f
  exact hop_l me tt l hl l.length k 0 (0, 0) (by omega) (by omega) hk

/-- A hop is made just if something lies between; then it is the farthest of what does. -/
theorem hop_spec (me tt : Int) (l : List Int) : (0 < (hop me tt l).2 ↔ ∃ x ∈ l, 0 < far me x ∧ far me x ≤ far me tt) ∧ (0 < (hop me tt l).2 → (hop me tt l).1 ∈ l ∧ 0 < far me (hop me tt l).1 ∧ far me (hop me tt l).1 ≤ far me tt ∧ ∀ x ∈ l, far me x ≤ far me tt → far me x ≤ far me (hop me tt l).1) := by
  obtain ⟨h1, h2, h3⟩ := hopL_spec me tt l (0, 0)
  have e : hopL me tt (0, 0) l = hop me tt l := rfl
  rw [e] at h1 h2 h3
  have key : 0 < (hop me tt l).2 → (hop me tt l).1 ∈ l ∧ 0 < far me (hop me tt l).1 ∧ far me (hop me tt l).1 ≤ far me tt ∧ ∀ x ∈ l, far me x ≤ far me tt → far me x ≤ far me (hop me tt l).1 := by
    intro hp
    rcases h3 with h3 | ⟨h3, h4, h5, h6⟩
    · rw [h3] at hp; simp at hp
    · exact ⟨h3, by omega, h5, fun x hx hle => by have := h2 x hx hle; omega⟩
  refine ⟨⟨fun hp => ⟨_, (key hp).1, (key hp).2.1, (key hp).2.2.1⟩, fun ⟨x, hx, h4, h5⟩ => ?_⟩, key⟩
  have := h2 x hx h5
  omega

/-! ### Way -/
/-- A way: each hop at least halves how far it is to the end, and comes nearer to where it leads. -/
inductive WayTo (e t : Int) : Int → List Int → Prop where
  | stop : WayTo e t e [e]
  | hop (p q : Int) (w : List Int) : far q e ≤ far p e / 2 → far q t < far p t → WayTo e t q w → WayTo e t p (p :: w)

/-- The seat that is nearest ahead of a point: e. -/
structure End (e t : Int) (S : List Int) : Prop where
  mem : e ∈ S
  least : ∀ x ∈ S, far e t ≤ far x t

theorem end_of (t : Int) : ∀ (S : List Int), 0 < S.length → ∃ e, End e t S
  | [], h => absurd h (by simp)
  | [x], _ => ⟨x, by simp, by simp⟩
  | x :: y :: S, _ => by
    obtain ⟨e, h1, h2⟩ := end_of t (y :: S) (by simp)
    by_cases c : far x t < far e t
    · refine ⟨x, by simp, fun z hz => ?_⟩
      rcases List.mem_cons.1 hz with rfl | hz
      · exact Int.le_refl _
      · have := h2 z hz; omega
    · refine ⟨e, by simp only [List.mem_cons] at h1 ⊢; exact .inr h1, fun z hz => ?_⟩
      rcases List.mem_cons.1 hz with rfl | hz
      · omega
      · exact h2 z hz

theorem end_unique {e e' t : Int} {S : List Int} (h64 : ∀ x ∈ S, In64 x) (h : End e t S) (h' : End e' t S) : e = e' := by
  have h1 := h.least e' h'.mem
  have h2 := h'.least e h.mem
  exact far_inj (t := t) (h64 _ h.mem) (h64 _ h'.mem) (by omega)

/-- From a seat the end lies between; and no seat that lies between is farther. -/
theorem end_ahead {e t p : Int} {S : List Int} (h : End e t S) (hp : p ∈ S) : far p e ≤ far p t ∧ ∀ x ∈ S, far p x ≤ far p t → far p x ≤ far p e := by
  have h1 : far p e ≤ far p t := by
    rcases Int.lt_or_le (far p t) (far p e) with g | g
    · have h2 := far_behind g
      have h3 := h.least p hp
      omega
    · exact g
  refine ⟨h1, fun x hx hle => ?_⟩
  have h2 := far_split h1
  have h3 := far_split hle
  have h4 := h.least x hx
  omega

theorem log_of (d : Int) (h0 : 0 < d) (h1 : d < 18446744073709551616) : ∃ j : Nat, j < 64 ∧ (2 : Int) ^ j ≤ d ∧ d < 2 * (2 : Int) ^ j := by
  obtain ⟨n, rfl⟩ : ∃ n : Nat, d = (n : Int) := ⟨d.toNat, by omega⟩
  have hn : n ≠ 0 := by omega
  have l1 : 2 ^ n.log2 ≤ n := Nat.log2_self_le hn
  have l2 : n < 2 ^ (n.log2 + 1) := Nat.lt_log2_self
  have l3 : n.log2 < 64 := by
    rw [Nat.log2_lt hn]
    have : (2 : Nat) ^ 64 = 18446744073709551616 := by simp
    omega
  refine ⟨n.log2, l3, ?_, ?_⟩
  · have : ((2 ^ n.log2 : Nat) : Int) = (2 : Int) ^ n.log2 := by simp
    omega
  · have : ((2 ^ n.log2 : Nat) : Int) = (2 : Int) ^ n.log2 := by simp
    rw [Nat.pow_succ] at l2
    omega

theorem far_shift {p x q : Int} (h0 : 0 ≤ q) (h : q ≤ far p x) : far ((p + q) % 18446744073709551616) x = far p x - q := by unfold far at *; omega
theorem far_back {p x q : Int} (h0 : 0 ≤ q) (h1 : q < 18446744073709551616) (h : far ((p + q) % 18446744073709551616) x + q < 18446744073709551616) : far p x = far ((p + q) % 18446744073709551616) x + q := by unfold far at *; omega

/-- One hop from a seat that isn't the end. -/
theorem hop_on {e t p : Int} {S : List Int} (h64 : ∀ x ∈ S, In64 x) (hE : End e t S) (hp : p ∈ S) (hne : p ≠ e) :
    0 < (hop p t (fingers p S)).2 ∧ (hop p t (fingers p S)).1 ∈ S ∧ far (hop p t (fingers p S)).1 e ≤ far p e / 2 ∧ far (hop p t (fingers p S)).1 t < far p t := by
  obtain ⟨he1, he2⟩ := end_ahead hE hp
  have hd0 : 0 < far p e := by
    rcases Int.lt_or_eq_of_le (far_nonneg p e) with g | g
    · exact g
    · exact absurd (far_zero (h64 p hp) (h64 e hE.mem) g.symm) hne
  obtain ⟨j, hj, hj1, hj2⟩ := log_of (far p e) hd0 (far_lt p e)
  obtain ⟨hpw1, hpw2⟩ := pow_cases j hj
  have hS : 0 < S.length := List.length_pos_of_mem hp
  obtain ⟨f1, f2⟩ := first_spec ((p + 2 ^ j) % 18446744073709551616) S hS
  obtain ⟨g1, g2, g3, g4⟩ := fingers_spec p S
  have hf := f2 e hE.mem
  generalize hq : (2 : Int) ^ j = q at *
  have hf2 : far ((p + q) % 18446744073709551616) e = far p e - q := far_shift (by omega) hj1
  have hk : fk p S j = first ((p + q) % 18446744073709551616) S := by unfold fk; rw [hq]
  rw [← hk] at hf f1
  have hb : far p (fk p S j) = far ((p + q) % 18446744073709551616) (fk p S j) + q := far_back (by omega) (by omega) (by have := far_lt p e; omega)
  have hn := far_nonneg ((p + q) % 18446744073709551616) (fk p S j)
  have hin : fk p S j ∈ fingers p S := by
    rcases g4 hS j hj with h | h
    · rw [h] at hb hn; rw [far_self] at hb; omega
    · exact h
  obtain ⟨s1, s2⟩ := hop_spec p t (fingers p S)
  have hpos : 0 < (hop p t (fingers p S)).2 := s1.2 ⟨_, hin, by omega, by omega⟩
  obtain ⟨k1, k2, k3, k4⟩ := s2 hpos
  have hmem : (hop p t (fingers p S)).1 ∈ S := (g3 _ k1).1
  have k5 := k4 _ hin (by omega)
  have k6 := he2 _ hmem k3
  have k7 := far_split k6
  have k8 := far_split k3
  refine ⟨hpos, hmem, by omega, by omega⟩

/-- At the end there is no hop. -/
theorem hop_end {e t : Int} {S : List Int} (h64 : ∀ x ∈ S, In64 x) (hE : End e t S) : ¬ 0 < (hop e t (fingers e S)).2 := by
  intro hpos
  obtain ⟨g1, g2, g3, g4⟩ := fingers_spec e S
  obtain ⟨s1, s2⟩ := hop_spec e t (fingers e S)
  obtain ⟨k1, k2, k3, k4⟩ := s2 hpos
  have := (end_ahead hE hE.mem).2 _ (g3 _ k1).1 k3
  rw [far_self] at this
  omega

theorem way_l {e t : Int} {S : List Int} (hS : S.length ≤ 1000) (h64 : ∀ x ∈ S, In64 x) (hE : End e t S) (j : Nat) : ∀ (p : Int), p ∈ S → far p e < 2 ^ j → ∃ w, WayTo e t p w ∧ 0 < w.length ∧ w.length ≤ j + 1 ∧ rd w 0 = p ∧ ∀ (acc : List Int) (k : Nat), acc.length + j < 10000 → j + 2000 < k →
    finger_Way.l0 k p t S acc = some (acc ++ w.tail, true) := by
  have stop : ∀ (acc : List Int) (k : Nat), 2000 < k → finger_Way.l0 k e t S acc = some (acc, true) := by
    intro acc k hk
    obtain ⟨k, rfl⟩ : ∃ m, k = m + 1 := ⟨k - 1, by omega⟩
    simp only [finger_Way.l0]
    have hl := (fingers_spec e S).1
    rw [fingers_eq e S (by unfold maxLen; omega) k (by omega), Option.bind_some, hop_eq e t _ (by unfold maxLen; omega) k (by omega), Option.bind_some, if_neg]
    simpa using hop_end h64 hE
  induction j with
  | zero =>
    intro p hp hd
    have : p = e := far_zero (h64 p hp) (h64 e hE.mem) (by have := far_nonneg p e; simp at hd; omega)
    subst this
    exact ⟨[p], .stop, by simp, by simp, rfl, fun acc k _ hk => by rw [stop acc k (by omega)]; simp⟩
  | succ j ih =>
    intro p hp hd
    by_cases hne : p = e
    · subst hne
      exact ⟨[p], .stop, by simp, by simp, rfl, fun acc k _ hk => by rw [stop acc k (by omega)]; simp⟩
    · obtain ⟨h1, h2, h3, h4⟩ := hop_on h64 hE hp hne
      have hl := (fingers_spec p S).1
      generalize hq : (hop p t (fingers p S)).1 = q at *
      obtain ⟨w, w1, w2, w3, w4, w5⟩ := ih q h2 (by rw [Int.pow_succ] at hd; omega)
      refine ⟨p :: w, .hop p q w h3 h4 w1, by simp, by simp; omega, rfl, fun acc k ha hk => ?_⟩
      obtain ⟨k, rfl⟩ : ∃ m, k = m + 1 := ⟨k - 1, by omega⟩
      simp only [finger_Way.l0]
      rw [fingers_eq p S (by unfold maxLen; omega) k (by omega), Option.bind_some, hop_eq p t _ (by unfold maxLen; omega) k (by omega), Option.bind_some, if_pos (by simpa using h1), if_pos (by omega)]
      simp only [hq]
      rw [w5 (acc ++ [q]) k (by simp; omega) (by omega)]
      congr 1
      match w, w2, w4 with
      | x :: w, _, w4 =>
        have : x = q := w4
        subst this
        simp

/-- The way from a seat. -/
theorem way_eq {me t : Int} {S : List Int} (hS : S.length ≤ 1000) (h64 : ∀ x ∈ S, In64 x) (hm : me ∈ S) : ∃ e w, End e t S ∧ WayTo e t me w ∧ 0 < w.length ∧ w.length ≤ 65 ∧ rd w 0 = me ∧ ∀ k, 3000 < k → finger_Way.f k me t S = some (w, true) := by
  obtain ⟨e, hE⟩ := end_of t S (List.length_pos_of_mem hm)
  obtain ⟨w, w1, w2, w3, w4, w5⟩ := way_l hS h64 hE 64 me hm (by have := far_lt me e; have : (2 : Int) ^ 64 = 18446744073709551616 := by simp
                                                                 omega)
  refine ⟨e, w, hE, w1, w2, w3, w4, fun k hk => ?_⟩
  unfold finger_Way.f
  rw [contains_eq S me (by unfold maxLen; omega) k (by omega), Option.bind_some, if_pos (by simpa using hm), w5 [me] k (by simp) (by omega)]
  match w, w2, w4 with
  | x :: w, _, w4 =>
    have : x = me := w4
    subst this
    simp

theorem way_none {me t : Int} {S : List Int} (hS : S.length ≤ 1000) (hm : me ∉ S) (k : Nat) (hk : 3000 < k) : finger_Way.f k me t S = some ([], false) := by
  unfold finger_Way.f
  rw [contains_eq S me (by unfold maxLen; omega) k (by omega), Option.bind_some, if_neg (by simpa using hm)]

theorem rd_cons (x : Int) (w : List Int) (i : Int) (h : 0 < i) : rd (x :: w) i = rd w (i - 1) := by
  unfold rd
  have : i.toNat = (i - 1).toNat + 1 := by omega
  rw [this]
  simp [List.getD_cons_succ]

theorem way_last {e t p : Int} {w : List Int} (h : WayTo e t p w) : rd w ((w.length : Int) - 1) = e ∧ rd w 0 = p ∧ 0 < w.length := by
  induction h with
  | stop => exact ⟨rfl, rfl, by simp⟩
  | hop p q w h1 h2 h3 ih =>
    refine ⟨?_, rfl, by simp⟩
    have := ih.2.2
    rw [rd_cons _ _ _ (by simp; omega), ← ih.1]
    congr 1
    simp

/-- Of each two places of a way that follow each other. -/
theorem way_each {e t p : Int} {w : List Int} (h : WayTo e t p w) : ∀ i : Int, 1 ≤ i → i < (w.length : Int) → far (rd w i) e ≤ far (rd w (i - 1)) e / 2 ∧ far (rd w i) t < far (rd w (i - 1)) t := by
  induction h with
  | stop => intro i h0 h1; simp at h1; omega
  | hop p q w h1 h2 h3 ih =>
    intro i h0 hi
    have hl := way_last h3
    rw [rd_cons _ _ i (by omega)]
    rcases Int.lt_or_eq_of_le h0 with g | g
    · rw [rd_cons _ _ (i - 1) (by omega)]
      exact ih (i - 1) (by omega) (by simp at hi; omega)
    · subst g
      rw [show (1 : Int) - 1 = 0 from rfl, hl.2.1]
      exact ⟨h1, h2⟩

theorem alive_at : rosarylaw12_alive.f 300 = some true := by decide +kernel
theorem alive_eq (k : Nat) (hk : 300 ≤ k) : rosarylaw12_alive.f k = some true := at_rounds (fun k => rosarylaw12_alive.mono k) hk alive_at
end Go.Proofs.Ytfkhdfnjlegnhaa.Pure
