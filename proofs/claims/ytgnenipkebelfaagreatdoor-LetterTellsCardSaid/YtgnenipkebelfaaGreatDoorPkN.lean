/- What is written is read as it was: plain. -/
import Derived.Test.YtgnenipkebelfaaGreatDoorPkC
set_option maxRecDepth 100000
set_option linter.unusedVariables false
set_option linter.unusedSimpArgs false
namespace Go.Proofs.YtgnenipkebelfaaGreatDoor.Pk
open Go Go.Eng F

theorem dg_nat (n i : Nat) : (dg (n : Int) i).toNat = n / 2 ^ (8 * i) % 256 := by
  have h1 : (n : Int).fdiv (2 ^ (8 * i)) = ((n / 2 ^ (8 * i) : Nat) : Int) := by
    rw [Int.fdiv_eq_ediv_of_nonneg _ (by exact_mod_cast Nat.zero_le _)]
    rw [Int.natCast_ediv]; norm_cast
  unfold dg
  rw [h1]
  generalize n / 2 ^ (8 * i) = m
  have hw : IntKind.u8.wrap (m : Int) = ((m % 256 : Nat) : Int) := by
    simp only [IntKind.wrap, IntKind.bits, IntKind.signed, IntKind.min, IntKind.max]
    simp
  rw [hw]
  simp
  omega
theorem num_back (n : Nat) (t : List UInt8) (hn : n ≤ 65535) : Rd.num ⟨numS (n : Int) ++ t, false⟩ = (n, ⟨t, false⟩) := by
  have hw : IntKind.u64.wrap (n : Int) = n := wrap_u64 (by omega) (by omega)
  have h1 := dg_nat n 1
  have h0 := dg_nat n 0
  simp only [Nat.mul_one, Nat.mul_zero, Nat.pow_zero, Nat.div_one] at h0 h1
  have hv : val [dg (n : Int) 1, dg (n : Int) 0] = n := by
    simp only [val, List.foldl, h0, h1]
    omega
  have ht : ¬ (t.length + 1 + 1 < 2) := by omega
  simp [Rd.num, Rd.number, Rd.take, numS, hw, hv, ht]
theorem wide_back (n : Nat) (t : List UInt8) (hn : n < 18446744073709551616) : Rd.wide ⟨wideS (n : Int) ++ t, false⟩ = (n, ⟨t, false⟩) := by
  unfold wideS
  have h0 := dg_nat n 0
  have h1 := dg_nat n 1
  have h2 := dg_nat n 2
  have h3 := dg_nat n 3
  have h4 := dg_nat n 4
  have h5 := dg_nat n 5
  have h6 := dg_nat n 6
  have h7 := dg_nat n 7
  generalize dg (n : Int) 0 = d0 at *
  generalize dg (n : Int) 1 = d1 at *
  generalize dg (n : Int) 2 = d2 at *
  generalize dg (n : Int) 3 = d3 at *
  generalize dg (n : Int) 4 = d4 at *
  generalize dg (n : Int) 5 = d5 at *
  generalize dg (n : Int) 6 = d6 at *
  generalize dg (n : Int) 7 = d7 at *
  have hv : val [d7, d6, d5, d4, d3, d2, d1, d0] = n := by
    simp only [val, List.foldl, h0, h1, h2, h3, h4, h5, h6, h7]
    omega
  have ht : ¬ (t.length + 1 + 1 + 1 + 1 + 1 + 1 + 1 + 1 < 8) := by omega
  simp [Rd.wide, Rd.number, Rd.take, hv, ht]

theorem bytesA_rep (c : Int) : ∀ n, bytesA (List.replicate n [AV.int .u8 c]) = some (List.replicate n (UInt8.ofNat c.toNat))
  | 0 => rfl
  | n + 1 => by rw [List.replicate_succ, List.replicate_succ]; simp only [bytesA, bytesA_rep c n]; rfl
theorem dg0 (n : Nat) (hn : n < 256) : (dg (n : Int) 0).toNat = n := by
  have hw : IntKind.u8.wrap (n : Int) = n := by
    simp only [IntKind.wrap, IntKind.bits, IntKind.signed, IntKind.min, IntKind.max]
    simp
    omega
  simp [dg, hw]
  omega
/-- A text is read back. -/
theorem text_back (s rest : List UInt8) (hs : s.length ≤ 255) : Rd.text ⟨textS s ++ rest, false⟩ = (s, ⟨rest, false⟩) := by
  have h1 : (dg (s.length : Int) 0).toNat = s.length := dg0 _ (by omega)
  simp [Rd.text, Rd.number, Rd.take, textS, val, h1]
theorem text_back0 (s : List UInt8) (hs : s.length ≤ 255) : Rd.text ⟨textS s, false⟩ = (s, ⟨[], false⟩) := by
  have := text_back s [] hs
  rwa [List.append_nil] at this

end Go.Proofs.YtgnenipkebelfaaGreatDoor.Pk
