/- FingerFew: a seat knows few others, itself never, and always the next one. For every input. -/
import Derived.Test.YtfkhdfnjlegnhaaPx25
import Derived.Test.YtfkhdfnjlegnhaaFingerL
namespace Go.Proofs.Ytfkhdfnjlegnhaa.Pure
open Go.RowKit Go.Proofs.Ytfkhdfnjlegnhaa.P Go.Proofs.YtfkhdfnjlegnhaaW.PrintWords Go.Proofs.YtfkhdfnjlegnhaaW.PrintLast Go.Proofs.YtfkhdfnjlegnhaaW.PrintMore
set_option linter.unusedVariables false
set_option linter.unusedSimpArgs false

/-- The nearest other seat: where it is, and whether there is one. -/
structure Next (me : Int) (S : List Int) (n : Int) (b : Bool) : Prop where
  yes : b = true → n ∈ S ∧ n ≠ me ∧ ∀ x ∈ S, x ≠ me → far me n ≤ far me x
  no : b = false → ∀ x ∈ S, x = me

theorem next_snoc {me n x : Int} {S : List Int} {b : Bool} (h : Next me S n b) : Next me (S ++ [x]) (if x = me then n else if b = true then (if far me x < far me n then x else n) else x) (if x = me then b else true) := by
  by_cases c : x = me
  · rw [if_pos c, if_pos c]
    refine ⟨fun hb => ?_, fun hb y hy => ?_⟩
    · obtain ⟨h1, h2, h3⟩ := h.yes hb
      refine ⟨by simp [h1], h2, fun y hy hne => ?_⟩
      rcases List.mem_append.1 hy with hy | hy
      · exact h3 y hy hne
      · simp at hy; exact absurd (hy.trans c) hne
    · rcases List.mem_append.1 hy with hy | hy
      · exact h.no hb y hy
      · simp at hy; rw [hy, c]
  · rw [if_neg c, if_neg c]
    refine ⟨fun _ => ?_, fun hb => by cases hb⟩
    cases b with
    | false =>
      simp only [Bool.false_eq_true, if_false]
      refine ⟨by simp, c, fun y hy hne => ?_⟩
      rcases List.mem_append.1 hy with hy | hy
      · exact absurd (h.no rfl y hy) hne
      · simp at hy; rw [hy]; exact Int.le_refl _
    | true =>
      obtain ⟨h1, h2, h3⟩ := h.yes rfl
      simp only [if_true]
      by_cases g : far me x < far me n
      · rw [if_pos g]
        refine ⟨by simp, c, fun y hy hne => ?_⟩
        rcases List.mem_append.1 hy with hy | hy
        · have := h3 y hy hne; omega
        · simp at hy; rw [hy]; exact Int.le_refl _
      · rw [if_neg g]
        refine ⟨by simp [h1], h2, fun y hy hne => ?_⟩
        rcases List.mem_append.1 hy with hy | hy
        · exact h3 y hy hne
        · simp at hy; rw [hy]; omega

theorem few_l2 (me n y : Int) (F : List Int) (b inb : Bool) (hF : F.length ≤ 64) (hnd : F.Nodup) (j : Int) (hj0 : 0 ≤ j) (hj : j < (F.length : Int)) (hy : rd F j = y) (d : Nat) : ∀ (k : Nat) (i : Int), 0 ≤ i → j - i = d → d < k →
    rosarylaw12_FingerFew.l2 k me F n b inb j y i F (F.length : Int) j = rosarylaw12_FingerFew.l1 (k - d - 1) me F n b inb F (F.length : Int) (j + 1) := by
  induction d with
  | zero =>
    intro k i h0 hd hk
    obtain ⟨k, rfl⟩ : ∃ m, k = m + 1 := ⟨k - 1, by omega⟩
    simp only [rosarylaw12_FingerFew.l2]; rw [if_neg (by omega), w64 (by omega) (by omega)]; congr 1
  | succ d ih =>
    intro k i h0 hd hk
    obtain ⟨k, rfl⟩ : ∃ m, k = m + 1 := ⟨k - 1, by omega⟩
    simp only [rosarylaw12_FingerFew.l2]
    have hne : ¬ rd F i = y := by
      intro he
      rw [← hy] at he
      unfold rd at he
      rw [List.getD_eq_getElem?_getD, List.getD_eq_getElem?_getD, List.getElem?_eq_getElem (show i.toNat < F.length by omega), List.getElem?_eq_getElem (show j.toNat < F.length by omega)] at he
      simp only [Option.getD_some] at he
      exact (List.pairwise_iff_getElem.1 hnd) i.toNat j.toNat (by omega) (by omega) (by omega) he
    rw [if_pos (by omega), if_pos h0, if_pos (by omega), if_neg hne, w64 (by omega) (by omega), ih k (i + 1) (by omega) (by omega) (by omega)]
    congr 1; omega

theorem few_l1 (me n : Int) (F : List Int) (b : Bool) (hF : F.length ≤ 64) (hnd : F.Nodup) (hme : me ∉ F) (d : Nat) : ∀ (k : Nat) (i : Int) (inb : Bool), 0 ≤ i → (F.length : Int) - i = d → d * 100 < k →
    rosarylaw12_FingerFew.l1 k me F n b inb F (F.length : Int) i = (if ((inb || (F.drop i.toNat).any (· == n)) == b) = true then (if b = true then some true else some ((F.length : Int) == 0)) else some false) := by
  induction d with
  | zero =>
    intro k i inb h0 hd hk
    obtain ⟨k, rfl⟩ : ∃ m, k = m + 1 := ⟨k - 1, by omega⟩
    simp only [rosarylaw12_FingerFew.l1]; rw [if_neg (by omega), List.drop_eq_nil_of_le (by omega)]; simp
  | succ d ih =>
    intro k i inb h0 hd hk
    obtain ⟨k, rfl⟩ : ∃ m, k = m + 2 := ⟨k - 2, by omega⟩
    have hlt : i < (F.length : Int) := by omega
    have hne : ¬ rd F i = me := fun he => hme (he ▸ rd_mem F i h0 hlt)
    have key : ∀ c : Bool, rosarylaw12_FingerFew.j3 (k + 1) me F n b c i (rd F i) F (F.length : Int) i = (if ((c || (F.drop (i + 1).toNat).any (· == n)) == b) = true then (if b = true then some true else some ((F.length : Int) == 0)) else some false) := by
      intro c
      simp only [rosarylaw12_FingerFew.j3]
      rw [if_neg hne, few_l2 me n (rd F i) F b c hF hnd i h0 hlt rfl i.toNat k 0 (by omega) (by omega) (by omega)]
      exact ih _ (i + 1) c (by omega) (by omega) (by omega)
    simp only [rosarylaw12_FingerFew.l1]
    rw [if_pos hlt, if_pos h0, if_pos hlt, drop_rd F i h0 hlt, List.any_cons, ← Bool.or_assoc]
    cases inb with
    | true => rw [if_pos rfl, key true]; simp
    | false => rw [if_neg (by simp), key _]; simp

theorem few_l0 (me : Int) (S F : List Int) (hS : S.length ≤ 1000) (d : Nat) : ∀ (k : Nat) (i n : Int) (b : Bool), 0 ≤ i → (S.length : Int) - i = d → d < k → Next me (S.take i.toNat) n b →
    ∃ n' b', Next me S n' b' ∧ rosarylaw12_FingerFew.l0 (k + 9000) me F n b S (S.length : Int) i = rosarylaw12_FingerFew.l1 (k - d - 1 + 9000) me F n' b' false F (F.length : Int) 0 := by
  induction d with
  | zero =>
    intro k i n b h0 hd hk hN
    obtain ⟨k, rfl⟩ : ∃ m, k = m + 1 := ⟨k - 1, by omega⟩
    rw [List.take_of_length_le (by omega)] at hN
    refine ⟨n, b, hN, ?_⟩
    rw [show k + 1 + 9000 = (k + 9000) + 1 by omega, show k + 1 - 0 - 1 + 9000 = k + 9000 by omega]
    generalize k + 9000 = q
    simp only [rosarylaw12_FingerFew.l0]
    rw [if_neg (by omega)]
  | succ d ih =>
    intro k i n b h0 hd hk hN
    obtain ⟨k, rfl⟩ : ∃ m, k = m + 1 := ⟨k - 1, by omega⟩
    have hlt : i < (S.length : Int) := by omega
    have hs := next_snoc (x := rd S i) hN
    have ht : S.take i.toNat ++ [rd S i] = S.take (i + 1).toNat := by
      rw [show (i + 1).toNat = i.toNat + 1 by omega, List.take_succ_eq_append_getElem (by omega)]
      unfold rd
      rw [List.getD_eq_getElem?_getD, List.getElem?_eq_getElem (by omega)]
      rfl
    rw [ht] at hs
    obtain ⟨n', b', h1, h2⟩ := ih k (i + 1) _ _ (by omega) (by omega) (by omega) hs
    refine ⟨n', b', h1, ?_⟩
    rw [show k + 1 - (d + 1) - 1 + 9000 = k - d - 1 + 9000 by omega, ← h2, show k + 1 + 9000 = (k + 9000) + 1 by omega]
    generalize k + 9000 = q
    conv => lhs; simp only [rosarylaw12_FingerFew.l0, far_wrap]
    rw [if_pos hlt, if_pos h0, if_pos hlt, w64 (by omega) (by omega)]
    by_cases c : rd S i = me
    · rw [if_pos c, if_pos c, if_pos c]
    · rw [if_neg c, if_neg c, if_neg c]
      cases b with
      | true =>
        simp only [if_true]
        by_cases g : far me (rd S i) < far me n
        · rw [if_pos g, if_pos g]
        · rw [if_neg g, if_neg g]
      | false => simp

theorem FingerFew : rosarylaw12_FingerFew.Pure := by
  intro me S hme hl _ h64
  refine ⟨20002, ?_⟩
  unfold rosarylaw12_FingerFew.f
  have h0 : rosarylaw12_FingerFew.j0 20002 me S true = some true := by
    simp only [rosarylaw12_FingerFew.j0, if_true]; rw [alive_eq _ (by omega)]; rfl
  by_cases h : (S.length : Int) > 60
  · rw [if_pos h, h0]
  rw [if_neg h, alive_eq _ (by omega), Option.bind_some]
  simp only [rosarylaw12_FingerFew.j0, Bool.not_true, Bool.false_eq_true, if_false]
  have hA : ∀ x ∈ S, In64 x := fun x hx => wf_u64 (h64 x hx)
  obtain ⟨g1, g2, g3, g4⟩ := fingers_spec me S
  rw [fingers_eq me S hl 20001 (by omega), Option.bind_some, if_neg (by omega)]
  obtain ⟨n, b, hN, hr⟩ := few_l0 me S (fingers me S) (by omega) S.length 11001 0 0 false (by omega) (by omega) (by omega) ⟨fun h => by (cases h), fun _ x hx => by simp at hx⟩
  have hr' : rosarylaw12_FingerFew.l0 20001 me (fingers me S) 0 false S (S.length : Int) 0 = _ := hr
  rw [hr', few_l1 me n _ b g1 g2 (fun hx => (g3 _ hx).2 rfl) (fingers me S).length _ 0 false (by omega) (by omega) (by omega)]
  rw [show (fingers me S).drop (0 : Int).toNat = fingers me S from rfl, Bool.false_or]
  cases b with
  | false =>
    have hnil : fingers me S = [] := by
      match hF : fingers me S with
      | [] => rfl
      | x :: F =>
        have := g3 x (by rw [hF]; simp)
        exact absurd (hN.no rfl x this.1) this.2
    rw [hnil]; rfl
  | true =>
    obtain ⟨k1, k2, k3⟩ := hN.yes rfl
    have hin : n ∈ fingers me S := by
      have hp : 0 < S.length := List.length_pos_of_mem k1
      obtain ⟨f1, f2⟩ := first_spec ((me + 2 ^ 0) % 18446744073709551616) S hp
      have hm64 := wf_u64 hme
      have hn64 := hA n k1
      have e1 : ∀ x, In64 x → x ≠ me → far ((me + 2 ^ 0) % 18446744073709551616) x = far me x - 1 := by
        intro x hx hne
        unfold far In64 at *
        simp only [Int.pow_zero]
        omega
      have e2 : far ((me + 2 ^ 0) % 18446744073709551616) me = 18446744073709551615 := by
        unfold far In64 at *
        simp only [Int.pow_zero]
        omega
      have hf := f2 n k1
      rw [e1 n hn64 k2] at hf
      have hlt := far_lt me n
      have hne : fk me S 0 ≠ me := by
        intro he
        have : first ((me + 2 ^ 0) % 18446744073709551616) S = me := he
        rw [this, e2] at hf
        omega
      have hfk : fk me S 0 = n := by
        have h5 := k3 (fk me S 0) f1 hne
        have h6 : far ((me + 2 ^ 0) % 18446744073709551616) (fk me S 0) ≤ far me n - 1 := hf
        rw [e1 (fk me S 0) (hA _ f1) hne] at h6
        exact far_inj' (t := me) (hA _ f1) hn64 (by omega)
      rcases g4 hp 0 (by omega) with h | h
      · exact absurd h hne
      · exact hfk ▸ h
    have : (fingers me S).any (· == n) = true := List.any_eq_true.2 ⟨n, hin, by simp⟩
    rw [this]; rfl
end Go.Proofs.Ytfkhdfnjlegnhaa.Pure
