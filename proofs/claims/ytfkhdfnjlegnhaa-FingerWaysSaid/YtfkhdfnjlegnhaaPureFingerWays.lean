/- FingerWays: a way comes nearer hop by hop, ends at the seat that is nearest ahead of where it leads, and is short. For every input. -/
import Derived.Test.YtfkhdfnjlegnhaaPx24
import Derived.Test.YtfkhdfnjlegnhaaFingerL
namespace Go.Proofs.Ytfkhdfnjlegnhaa.Pure
open Go.RowKit Go.Proofs.Ytfkhdfnjlegnhaa.P Go.Proofs.YtfkhdfnjlegnhaaW.PrintWords Go.Proofs.YtfkhdfnjlegnhaaW.PrintLast Go.Proofs.YtfkhdfnjlegnhaaW.PrintMore
set_option linter.unusedVariables false
set_option linter.unusedSimpArgs false

theorem ways_l1 (t e : Int) (S : List Int) (hS : S.length ≤ 1000) (hle : ∀ x ∈ S, far e t ≤ far x t) (d : Nat) : ∀ (k : Nat) (i : Int), 0 ≤ i → (S.length : Int) - i = d → d < k → rosarylaw12_FingerWays.l1 k t e S (S.length : Int) i = some true := by
  induction d with
  | zero =>
    intro k i h0 hd hk
    obtain ⟨k, rfl⟩ : ∃ m, k = m + 1 := ⟨k - 1, by omega⟩
    simp only [rosarylaw12_FingerWays.l1]; rw [if_neg (by omega)]
  | succ d ih =>
    intro k i h0 hd hk
    obtain ⟨k, rfl⟩ : ∃ m, k = m + 1 := ⟨k - 1, by omega⟩
    have hlt : i < (S.length : Int) := by omega
    have := hle _ (rd_mem S i h0 hlt)
    simp only [rosarylaw12_FingerWays.l1, far_wrap]
    rw [if_pos hlt, if_pos h0, if_pos hlt, if_neg (by omega), w64 (by omega) (by omega), ih k (i + 1) (by omega) (by omega) (by omega)]

theorem ways_l0 (t e p : Int) (S w : List Int) (hS : S.length ≤ 1000) (hle : ∀ x ∈ S, far e t ≤ far x t) (hw : WayTo e t p w) (hl : w.length ≤ 1000) (d : Nat) : ∀ (k : Nat) (i : Int), 1 ≤ i → (w.length : Int) - i = d → d + 2000 < k → rosarylaw12_FingerWays.l0 k t S w i = some true := by
  obtain ⟨g1, g2, g3⟩ := way_last hw
  induction d with
  | zero =>
    intro k i h0 hd hk
    obtain ⟨k, rfl⟩ : ∃ m, k = m + 1 := ⟨k - 1, by omega⟩
    simp only [rosarylaw12_FingerWays.l0]
    rw [if_neg (by omega), w64 (by omega) (by omega), if_pos (by omega), if_pos (by omega), g1]
    exact ways_l1 t e S hS hle S.length k 0 (by omega) (by omega) (by omega)
  | succ d ih =>
    intro k i h0 hd hk
    obtain ⟨k, rfl⟩ : ∃ m, k = m + 1 := ⟨k - 1, by omega⟩
    have he := (way_each hw i h0 (by omega)).2
    simp only [rosarylaw12_FingerWays.l0, far_wrap]
    rw [if_pos (by omega), if_pos (by omega), w64 (n := i - 1) (by omega) (by omega), if_pos (by omega), if_pos (by omega), if_neg (by omega), w64 (by omega) (by omega), ih k (i + 1) (by omega) (by omega) (by omega)]

theorem FingerWays : rosarylaw12_FingerWays.Pure := by
  intro me t S hme ht hl _ h64
  refine ⟨5000, ?_⟩
  unfold rosarylaw12_FingerWays.f
  have h0 : rosarylaw12_FingerWays.j0 5000 me t S true = some true := by
    simp only [rosarylaw12_FingerWays.j0, if_true]; rw [alive_eq _ (by omega)]; rfl
  by_cases h : (S.length : Int) > 40
  · rw [if_pos h, h0]
  rw [if_neg h, alive_eq _ (by omega), Option.bind_some]
  have hA : ∀ x ∈ S ++ [me], In64 x := by
    intro x hx
    rcases List.mem_append.1 hx with hx | hx
    · exact wf_u64 (h64 x hx)
    · simp at hx; rw [hx]; exact wf_u64 hme
  obtain ⟨e, w, hE, hw, w2, w3, w4, w5⟩ := way_eq (t := t) (S := S ++ [me]) (by simp; omega) hA (me := me) (by simp)
  simp only [rosarylaw12_FingerWays.j0, Bool.not_true, Bool.false_eq_true, if_false]
  rw [if_pos (by simp; omega)]
  simp only [Option.bind_some, List.nil_append]
  rw [if_pos (by omega), w5 4999 (by omega)]
  simp only [Option.bind_some, if_true]
  rw [if_neg (by omega), if_neg (by omega), if_pos (by omega), w4, bne_self_eq_false]
  simp only [rosarylaw12_FingerWays.j1, Bool.false_eq_true, if_false]
  exact ways_l0 t e me (S ++ [me]) w (by simp; omega) hE.least hw (by omega) (w.length - 1) 4998 1 (by omega) (by omega) (by omega)
end Go.Proofs.Ytfkhdfnjlegnhaa.Pure
