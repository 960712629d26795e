/- Finger: in plain Lean: how far, the first seat, fingers, hops, ways. -/
import Derived.Test.YtfkhdfnjlegnhaaF
import Derived.Test.YtfkhdfnjlegnhaaEngW
set_option maxRecDepth 100000
set_option linter.unusedVariables false
set_option linter.unusedSimpArgs false
namespace Go.Proofs.Ytfkhdfnjlegnhaa.Fg
open Go Go.Eng F

def In64 (x : Int) : Prop := 0 ≤ x ∧ x < 18446744073709551616
def far (a b : Int) : Int := (b - a) % 18446744073709551616
theorem far_wrap (a b : Int) : IntKind.u64.wrap (b - a) = far a b := by
  simp only [IntKind.wrap, IntKind.bits, IntKind.signed, IntKind.min, IntKind.max, far]
  simp
theorem wrap_mod (a : Int) : IntKind.u64.wrap a = a % 18446744073709551616 := by
  simp only [IntKind.wrap, IntKind.bits, IntKind.signed, IntKind.min, IntKind.max]
  simp
theorem far_nonneg (a b : Int) : 0 ≤ far a b := Int.emod_nonneg _ (by decide)
theorem far_lt (a b : Int) : far a b < 18446744073709551616 := Int.emod_lt_of_pos _ (by decide)
theorem far_self (a : Int) : far a a = 0 := by unfold far; omega
theorem far_zero {a b : Int} (ha : In64 a) (hb : In64 b) (h : far a b = 0) : a = b := by unfold far at h; unfold In64 at *; omega
/-- On the way from p, at or ahead of b: the way from a place between. -/
theorem far_split {p a b : Int} (h : far p a ≤ far p b) : far a b = far p b - far p a := by unfold far at *; omega
theorem far_behind {p a b : Int} (h : far p b < far p a) : far p b < far a b := by unfold far at *; omega
theorem far_inj {a b t : Int} (ha : In64 a) (hb : In64 b) (h : far a t = far b t) : a = b := by unfold far at h; unfold In64 at *; omega
theorem far_inj' {a b t : Int} (ha : In64 a) (hb : In64 b) (h : far t a = far t b) : a = b := by unfold far at h; unfold In64 at *; omega

def firstL (a b : Int) (l : List Int) : Int := l.foldl (fun b s => if far a s < far a b then s else b) b
def first (a : Int) (l : List Int) : Int := firstL a (l.headD 0) l
theorem firstL_snoc (a b : Int) (l : List Int) (s : Int) : firstL a b (l ++ [s]) = if far a s < far a (firstL a b l) then s else firstL a b l := by unfold firstL; rw [List.foldl_append]; rfl
theorem firstL_spec (a : Int) : ∀ (l : List Int) (b : Int), (firstL a b l = b ∨ firstL a b l ∈ l) ∧ far a (firstL a b l) ≤ far a b ∧ ∀ x ∈ l, far a (firstL a b l) ≤ far a x
  | [], b => ⟨.inl rfl, Int.le_refl _, by simp⟩
  | y :: l, b => by
    obtain ⟨h1, h2, h3⟩ := firstL_spec a l (if far a y < far a b then y else b)
    have e : firstL a b (y :: l) = firstL a (if far a y < far a b then y else b) l := rfl
    rw [e]
    have g : far a (if far a y < far a b then y else b) ≤ far a b ∧ far a (if far a y < far a b then y else b) ≤ far a y := by
      by_cases c : far a y < far a b
      · rw [if_pos c]; omega
      · rw [if_neg c]; omega
    refine ⟨?_, by omega, fun x hx => ?_⟩
    · rcases h1 with h1 | h1
      · rw [h1]
        by_cases c : far a y < far a b
        · rw [if_pos c]; exact .inr (by simp)
        · rw [if_neg c]; exact .inl rfl
      · exact .inr (by simp [h1])
    · rcases List.mem_cons.1 hx with rfl | hx
      · omega
      · exact h3 x hx

theorem first_spec (a : Int) (l : List Int) (hp : 0 < l.length) : first a l ∈ l ∧ ∀ x ∈ l, far a (first a l) ≤ far a x := by
  obtain ⟨h1, _, h3⟩ := firstL_spec a l (l.headD 0)
  refine ⟨?_, h3⟩
  rcases h1 with h1 | h1
  · unfold first; rw [h1]
    cases l with
    | nil => simp at hp
    | cons x l => simp
  · exact h1
def fk (me : Int) (S : List Int) (j : Nat) : Int := first ((me + 2 ^ j) % 18446744073709551616) S
def step (me : Int) (S : List Int) (out : List Int) (j : Nat) : List Int := if fk me S j = me then out else if fk me S j ∈ out then out else out ++ [fk me S j]
def fing (me : Int) (S : List Int) : Nat → List Int
  | 0 => []
  | j + 1 => step me S (fing me S j) j

theorem fing_spec (me : Int) (S : List Int) (hp : 0 < S.length) (j : Nat) : (fing me S j).length ≤ j ∧ (fing me S j).Nodup ∧ (∀ x ∈ fing me S j, x ∈ S ∧ x ≠ me) ∧ ∀ i, i < j → fk me S i = me ∨ fk me S i ∈ fing me S j := by
  induction j with
  | zero => exact ⟨by simp [fing], by simp [fing], by simp [fing], by omega⟩
  | succ j ih =>
    obtain ⟨h1, h2, h3, h4⟩ := ih
    have hf : fk me S j ∈ S := (first_spec _ S hp).1
    unfold fing step
    by_cases c1 : fk me S j = me
    · rw [if_pos c1]
      refine ⟨by omega, h2, h3, fun i hi => ?_⟩
      rcases Nat.lt_or_ge i j with g | g
      · exact h4 i g
      · rw [show i = j by omega]; exact .inl c1
    · rw [if_neg c1]
      by_cases c2 : fk me S j ∈ fing me S j
      · rw [if_pos c2]
        refine ⟨by omega, h2, h3, fun i hi => ?_⟩
        rcases Nat.lt_or_ge i j with g | g
        · exact h4 i g
        · rw [show i = j by omega]; exact .inr c2
      · rw [if_neg c2]
        refine ⟨by simp; omega, ?_, ?_, fun i hi => ?_⟩
        · rw [List.nodup_append]
          refine ⟨h2, by simp, ?_⟩
          intro x hx y hy
          simp at hy
          rw [hy]
          exact fun e => c2 (e ▸ hx)
        · intro x hx
          rcases List.mem_append.1 hx with hx | hx
          · exact h3 x hx
          · simp at hx; rw [hx]; exact ⟨hf, c1⟩
        · rcases Nat.lt_or_ge i j with g | g
          · rcases h4 i g with h | h
            · exact .inl h
            · exact .inr (by simp [h])
          · rw [show i = j by omega]; exact .inr (by simp)

theorem pow_cases (j : Nat) (hj : j < 64) : (2 : Int) ^ j < 18446744073709551616 ∧ 1 ≤ (2 : Int) ^ j := by
  have h1 : (2 : Nat) ^ j < 2 ^ 64 := Nat.pow_lt_pow_right (by omega) hj
  have h2 : 1 ≤ (2 : Nat) ^ j := Nat.one_le_two_pow
  have e : ((2 ^ j : Nat) : Int) = (2 : Int) ^ j := by simp
  have e2 : (2 : Nat) ^ 64 = 18446744073709551616 := by simp
  omega

def fingers (me : Int) (S : List Int) : List Int := if S.length = 0 then [] else fing me S 64
theorem fingers_spec (me : Int) (S : List Int) : (fingers me S).length ≤ 64 ∧ (fingers me S).Nodup ∧ (∀ x ∈ fingers me S, x ∈ S ∧ x ≠ me) ∧ (0 < S.length → ∀ i, i < 64 → fk me S i = me ∨ fk me S i ∈ fingers me S) := by
  unfold fingers
  by_cases h : S.length = 0
  · rw [if_pos h]; exact ⟨by simp, by simp, by simp, by omega⟩
  · rw [if_neg h]
    obtain ⟨h1, h2, h3, h4⟩ := fing_spec me S (by omega) 64
    exact ⟨h1, h2, h3, fun _ => h4⟩

def hopL (me tt : Int) (b : Int × Int) (l : List Int) : Int × Int := l.foldl (fun b f => if far me f > b.2 ∧ far me f ≤ far me tt then (f, far me f) else b) b

theorem hopL_snoc (me tt : Int) (b : Int × Int) (l : List Int) (f : Int) : hopL me tt b (l ++ [f]) = if far me f > (hopL me tt b l).2 ∧ far me f ≤ far me tt then (f, far me f) else hopL me tt b l := by unfold hopL; rw [List.foldl_append]; rfl
theorem hopL_spec (me tt : Int) : ∀ (l : List Int) (b : Int × Int), b.2 ≤ (hopL me tt b l).2 ∧ (∀ x ∈ l, far me x ≤ far me tt → far me x ≤ (hopL me tt b l).2) ∧ (hopL me tt b l = b ∨ ((hopL me tt b l).1 ∈ l ∧ (hopL me tt b l).2 = far me (hopL me tt b l).1 ∧ far me (hopL me tt b l).1 ≤ far me tt ∧ b.2 < (hopL me tt b l).2))
  | [], b => ⟨Int.le_refl _, by simp, .inl rfl⟩
  | y :: l, b => by
    have e : hopL me tt b (y :: l) = hopL me tt (if far me y > b.2 ∧ far me y ≤ far me tt then (y, far me y) else b) l := rfl
    obtain ⟨h1, h2, h3⟩ := hopL_spec me tt l (if far me y > b.2 ∧ far me y ≤ far me tt then (y, far me y) else b)
    rw [e]
    by_cases c : far me y > b.2 ∧ far me y ≤ far me tt
    · rw [if_pos c] at h1 h2 h3 ⊢
      simp only at h1 h3
      refine ⟨by omega, fun x hx hle => ?_, ?_⟩
      · rcases List.mem_cons.1 hx with rfl | hx
        · exact h1
        · exact h2 x hx hle
      · right
        rcases h3 with h3 | ⟨h3, h4, h5, h6⟩
        · rw [h3]; exact ⟨by simp, rfl, c.2, c.1⟩
        · exact ⟨by simp [h3], h4, h5, by omega⟩
    · rw [if_neg c] at h1 h2 h3 ⊢
      refine ⟨h1, fun x hx hle => ?_, ?_⟩
      · rcases List.mem_cons.1 hx with rfl | hx
        · have : ¬ far me x > b.2 := fun g => c ⟨g, hle⟩
          omega
        · exact h2 x hx hle
      · rcases h3 with h3 | ⟨h3, h4⟩
        · exact .inl h3
        · exact .inr ⟨by simp [h3], h4⟩

def hop (me tt : Int) (l : List Int) : Int × Int := hopL me tt (0, 0) l
/-- A hop is made just if something lies between; then it is the farthest of what does. -/
theorem hop_spec (me tt : Int) (l : List Int) : (0 < (hop me tt l).2 ↔ ∃ x ∈ l, 0 < far me x ∧ far me x ≤ far me tt) ∧ (0 < (hop me tt l).2 → (hop me tt l).1 ∈ l ∧ 0 < far me (hop me tt l).1 ∧ far me (hop me tt l).1 ≤ far me tt ∧ ∀ x ∈ l, far me x ≤ far me tt → far me x ≤ far me (hop me tt l).1) := by
  obtain ⟨h1, h2, h3⟩ := hopL_spec me tt l (0, 0)
  have e : hopL me tt (0, 0) l = hop me tt l := rfl
  rw [e] at h1 h2 h3
  have key : 0 < (hop me tt l).2 → (hop me tt l).1 ∈ l ∧ 0 < far me (hop me tt l).1 ∧ far me (hop me tt l).1 ≤ far me tt ∧ ∀ x ∈ l, far me x ≤ far me tt → far me x ≤ far me (hop me tt l).1 := by
    intro hp
    rcases h3 with h3 | ⟨h3, h4, h5, h6⟩
    · rw [h3] at hp; simp at hp
    · exact ⟨h3, by omega, h5, fun x hx hle => by have := h2 x hx hle; omega⟩
  refine ⟨⟨fun hp => ⟨_, (key hp).1, (key hp).2.1, (key hp).2.2.1⟩, fun ⟨x, hx, h4, h5⟩ => ?_⟩, key⟩
  have := h2 x hx h5
  omega

/-- The seat that is nearest ahead of a point: e. -/
structure End (e t : Int) (S : List Int) : Prop where
  mem : e ∈ S
  least : ∀ x ∈ S, far e t ≤ far x t

theorem end_of (t : Int) : ∀ (S : List Int), 0 < S.length → ∃ e, End e t S
  | [], h => absurd h (by simp)
  | [x], _ => ⟨x, by simp, by simp⟩
  | x :: y :: S, _ => by
    obtain ⟨e, h1, h2⟩ := end_of t (y :: S) (by simp)
    by_cases c : far x t < far e t
    · refine ⟨x, by simp, fun z hz => ?_⟩
      rcases List.mem_cons.1 hz with rfl | hz
      · exact Int.le_refl _
      · have := h2 z hz; omega
    · refine ⟨e, by simp only [List.mem_cons] at h1 ⊢; exact .inr h1, fun z hz => ?_⟩
      rcases List.mem_cons.1 hz with rfl | hz
      · omega
      · exact h2 z hz

/-- From a seat the end lies between; and no seat that lies between is farther. -/
theorem end_ahead {e t p : Int} {S : List Int} (h : End e t S) (hp : p ∈ S) : far p e ≤ far p t ∧ ∀ x ∈ S, far p x ≤ far p t → far p x ≤ far p e := by
  have h1 : far p e ≤ far p t := by
    rcases Int.lt_or_le (far p t) (far p e) with g | g
    · have h2 := far_behind g
      have h3 := h.least p hp
      omega
    · exact g
  refine ⟨h1, fun x hx hle => ?_⟩
  have h2 := far_split h1
  have h3 := far_split hle
  have h4 := h.least x hx
  omega

theorem log_of (d : Int) (h0 : 0 < d) (h1 : d < 18446744073709551616) : ∃ j : Nat, j < 64 ∧ (2 : Int) ^ j ≤ d ∧ d < 2 * (2 : Int) ^ j := by
  obtain ⟨n, rfl⟩ : ∃ n : Nat, d = (n : Int) := ⟨d.toNat, by omega⟩
  have hn : n ≠ 0 := by omega
  have l1 : 2 ^ n.log2 ≤ n := Nat.log2_self_le hn
  have l2 : n < 2 ^ (n.log2 + 1) := Nat.lt_log2_self
  have l3 : n.log2 < 64 := by
    rw [Nat.log2_lt hn]
    have : (2 : Nat) ^ 64 = 18446744073709551616 := by simp
    omega
  refine ⟨n.log2, l3, ?_, ?_⟩
  · have : ((2 ^ n.log2 : Nat) : Int) = (2 : Int) ^ n.log2 := by simp
    omega
  · have : ((2 ^ n.log2 : Nat) : Int) = (2 : Int) ^ n.log2 := by simp
    rw [Nat.pow_succ] at l2
    omega

theorem far_shift {p x q : Int} (h0 : 0 ≤ q) (h : q ≤ far p x) : far ((p + q) % 18446744073709551616) x = far p x - q := by unfold far at *; omega
theorem far_back {p x q : Int} (h0 : 0 ≤ q) (h1 : q < 18446744073709551616) (h : far ((p + q) % 18446744073709551616) x + q < 18446744073709551616) : far p x = far ((p + q) % 18446744073709551616) x + q := by unfold far at *; omega

/-- One hop from a seat that isn't the end. -/
theorem hop_on {e t p : Int} {S : List Int} (h64 : ∀ x ∈ S, In64 x) (hE : End e t S) (hp : p ∈ S) (hne : p ≠ e) :
    0 < (hop p t (fingers p S)).2 ∧ (hop p t (fingers p S)).1 ∈ S ∧ far (hop p t (fingers p S)).1 e ≤ far p e / 2 ∧ far (hop p t (fingers p S)).1 t < far p t := by
  obtain ⟨he1, he2⟩ := end_ahead hE hp
  have hd0 : 0 < far p e := by
    rcases Int.lt_or_eq_of_le (far_nonneg p e) with g | g
    · exact g
    · exact absurd (far_zero (h64 p hp) (h64 e hE.mem) g.symm) hne
  obtain ⟨j, hj, hj1, hj2⟩ := log_of (far p e) hd0 (far_lt p e)
  obtain ⟨hpw1, hpw2⟩ := pow_cases j hj
  have hS : 0 < S.length := List.length_pos_of_mem hp
  obtain ⟨f1, f2⟩ := first_spec ((p + 2 ^ j) % 18446744073709551616) S hS
  obtain ⟨g1, g2, g3, g4⟩ := fingers_spec p S
  have hf := f2 e hE.mem
  generalize hq : (2 : Int) ^ j = q at *
  have hf2 : far ((p + q) % 18446744073709551616) e = far p e - q := far_shift (by omega) hj1
  have hk : fk p S j = first ((p + q) % 18446744073709551616) S := by unfold fk; rw [hq]
  rw [← hk] at hf f1
  have hb : far p (fk p S j) = far ((p + q) % 18446744073709551616) (fk p S j) + q := far_back (by omega) (by omega) (by have := far_lt p e; omega)
  have hn := far_nonneg ((p + q) % 18446744073709551616) (fk p S j)
  have hin : fk p S j ∈ fingers p S := by
    rcases g4 hS j hj with h | h
    · rw [h] at hb hn; rw [far_self] at hb; omega
    · exact h
  obtain ⟨s1, s2⟩ := hop_spec p t (fingers p S)
  have hpos : 0 < (hop p t (fingers p S)).2 := s1.2 ⟨_, hin, by omega, by omega⟩
  obtain ⟨k1, k2, k3, k4⟩ := s2 hpos
  have hmem : (hop p t (fingers p S)).1 ∈ S := (g3 _ k1).1
  have k5 := k4 _ hin (by omega)
  have k6 := he2 _ hmem k3
  have k7 := far_split k6
  have k8 := far_split k3
  refine ⟨hpos, hmem, by omega, by omega⟩

/-- At the end there is no hop. -/
theorem hop_end {e t : Int} {S : List Int} (h64 : ∀ x ∈ S, In64 x) (hE : End e t S) : ¬ 0 < (hop e t (fingers e S)).2 := by
  intro hpos
  obtain ⟨g1, g2, g3, g4⟩ := fingers_spec e S
  obtain ⟨s1, s2⟩ := hop_spec e t (fingers e S)
  obtain ⟨k1, k2, k3, k4⟩ := s2 hpos
  have := (end_ahead hE hE.mem).2 _ (g3 _ k1).1 k3
  rw [far_self] at this
  omega

/-- All hops from a seat on. -/
inductive Hops (t : Int) (S : List Int) : Int → List Int → Prop where
  | stop (p : Int) : ¬ 0 < (hop p t (fingers p S)).2 → Hops t S p []
  | hop (p : Int) (w : List Int) : 0 < (hop p t (fingers p S)).2 → Hops t S (hop p t (fingers p S)).1 w → Hops t S p ((hop p t (fingers p S)).1 :: w)
theorem hops_of {e t : Int} {S : List Int} (h64 : ∀ x ∈ S, In64 x) (hE : End e t S) (j : Nat) : ∀ (p : Int), p ∈ S → far p e < 2 ^ j → ∃ w, Hops t S p w ∧ w.length ≤ j := by
  induction j with
  | zero =>
    intro p hp hd
    have : p = e := far_zero (h64 p hp) (h64 e hE.mem) (by have := far_nonneg p e; simp at hd; omega)
    subst this
    exact ⟨[], .stop _ (hop_end h64 hE), by simp⟩
  | succ j ih =>
    intro p hp hd
    by_cases hne : p = e
    · subst hne
      exact ⟨[], .stop _ (hop_end h64 hE), by simp⟩
    · obtain ⟨h1, h2, h3, h4⟩ := hop_on h64 hE hp hne
      obtain ⟨w, w1, w2⟩ := ih _ h2 (by rw [Int.pow_succ] at hd; omega)
      exact ⟨_, .hop p w h1 w1, by simp; omega⟩
theorem hops_ex {me t : Int} {S : List Int} (h64 : ∀ x ∈ S, In64 x) (hm : me ∈ S) : ∃ w, Hops t S me w ∧ w.length ≤ 64 := by
  obtain ⟨e, hE⟩ := end_of t S (List.length_pos_of_mem hm)
  refine hops_of h64 hE 64 me hm ?_
  have := far_lt me e
  have h2 : (2 : Int) ^ 64 = 18446744073709551616 := by simp
  omega
/-- The document's rule of a hop comes to the same. -/
theorem hop_same {me t : Int} {l : List Int} (hme : In64 me) (h64 : ∀ x ∈ l, In64 x) : ((hop me t l).2 = 0 ∧ (hop me t l).1 = 0) ∨ (0 < (hop me t l).2 ∧ (hop me t l).2 = far me (hop me t l).1 ∧ far me (hop me t l).1 ≤ far me t) := by
  obtain ⟨h1, h2, h3⟩ := hopL_spec me t l (0, 0)
  rcases h3 with h3 | ⟨h3, h4, h5, h6⟩
  · left; unfold hop; rw [h3]; exact ⟨rfl, rfl⟩
  · right; exact ⟨h6, h4, h5⟩
theorem hop_rule {me t f : Int} {b : Int × Int} (hme : In64 me) (hf : In64 f) (hb : (b.2 = 0 ∧ b.1 = 0) ∨ (0 < b.2 ∧ b.2 = far me b.1 ∧ far me b.1 ≤ far me t)) :
    (f ≠ me ∧ far me f ≤ far me t ∧ (¬ 0 < b.2 ∨ far f t < far b.1 t)) ↔ (far me f > b.2 ∧ far me f ≤ far me t) := by
  have hn := far_nonneg me f
  have hz : far me f = 0 → f = me := fun h => (far_zero hme hf h).symm
  have hs : f = me → far me f = 0 := fun h => by rw [h]; exact far_self me
  constructor
  · rintro ⟨h1, h2, h3⟩
    refine ⟨?_, h2⟩
    have h0 : 0 < far me f := by
      rcases Int.lt_or_eq_of_le hn with g | g
      · exact g
      · exact absurd (hz g.symm) h1
    rcases hb with ⟨hb, _⟩ | ⟨hb, hb2, hb3⟩
    · omega
    · rcases h3 with h3 | h3
      · omega
      · have e1 := far_split h2
        have e2 := far_split hb3
        omega
  · rintro ⟨h1, h2⟩
    have h0 : f ≠ me := by
      intro h
      have := hs h
      rcases hb with ⟨hb, _⟩ | ⟨hb, hb2, hb3⟩ <;> omega
    refine ⟨h0, h2, ?_⟩
    rcases hb with ⟨hb, _⟩ | ⟨hb, hb2, hb3⟩
    · left; omega
    · right
      have e1 := far_split h2
      have e2 := far_split hb3
      omega
end Go.Proofs.Ytfkhdfnjlegnhaa.Fg
