/- PackCuts: bytes that are cut are bad at the part that lacks, and all behind it; what stands ahead is read as it was. For every list of texts. -/
import Derived.Test.YtnfdgbapionojaaPx6
import Derived.Test.YtnfdgbapionojaaPackL
namespace Go.Proofs.Ytnfdgbapionojaa.Pure
open Go.RowKit Go.Proofs.Ytnfdgbapionojaa.P Go.Proofs.YtnfdgbapionojaaW.PrintWords Go.Proofs.YtnfdgbapionojaaW.PrintLast Go.Proofs.YtnfdgbapionojaaW.PrintMore
set_option linter.unusedVariables false
set_option linter.unusedSimpArgs false

theorem rdOf_lt (x : List ByteArray) (i : Int) (h0 : 0 ≤ i) (h : i < (x.length : Int)) : x.drop i.toNat = rdOf ByteArray.empty x i :: x.drop (i + 1).toNat := by
  have hn : i.toNat < x.length := by omega
  have e : (i + 1).toNat = i.toNat + 1 := by omega
  rw [e, List.drop_eq_getElem_cons hn]
  unfold rdOf
  rw [List.getD_eq_getElem?_getD, List.getElem?_eq_getElem hn]
  rfl

/-- All texts, each with its length ahead. -/
def encs (x : List ByteArray) : List UInt8 := x.flatMap fun s => encT s.data.toList
theorem encs_cons (s : ByteArray) (x : List ByteArray) : encs (s :: x) = encT s.data.toList ++ encs x := rfl
theorem of_mk (s : ByteArray) : s = mk s.data.toList := by cases s; simp [mk]
theorem size_data (s : ByteArray) : s.size = s.data.toList.length := by cases s; simp [ByteArray.size]

/-- A text read of what is left behind a cut. -/
theorem readT_cut (s r : List UInt8) (hs : s.length ≤ 255) (m : Nat) : (s.length + 1 ≤ m → readT ((encT s ++ r).take m) false = (s, r.take (m - (s.length + 1)), false)) ∧ (m < s.length + 1 → ∃ l', readT ((encT s ++ r).take m) false = ([], l', true) ∧ l'.length ≤ m) := by
  constructor
  · intro h
    rw [List.take_append, encT_length, List.take_of_length_le (by rw [encT_length]; omega)]
    exact readT_enc s _ hs
  · intro h
    have e1 : (encT s ++ r).take m = (encT s).take m := by rw [List.take_append, encT_length, show m - (s.length + 1) = 0 by omega]; simp
    rw [e1]
    cases m with
    | zero =>
      refine ⟨[], ?_, by simp⟩
      rfl
    | succ m =>
      have e2 : (encT s).take (m + 1) = enc s.length 1 ++ s.take m := by
        unfold encT
        rw [List.take_append, enc_length, List.take_of_length_le (by rw [enc_length]; omega)]
        simp
      rw [e2]
      unfold readT
      rw [readN_enc]
      simp only [Nat.pow_one, Nat.mod_eq_of_lt (show s.length < 256 by omega)]
      refine ⟨s.take m, ?_, by simp; omega⟩
      unfold rtake
      rw [if_pos (.inr (by simp; omega))]

theorem cuts_l1 (kk : Nat) (X : List ByteArray) (hX : X.length ≤ 20) (hs : ∀ s ∈ X, s.size ≤ 255) (d : Nat) : ∀ (k : Nat) (i at_ : Int) (bad : Bool) (l : List UInt8), 0 ≤ i → (X.length : Int) - i = d → 2 * d + 20 < k → l.length ≤ 6000 →
    (bad = false → 0 ≤ at_ ∧ at_ ≤ kk ∧ l = (encs (X.drop i.toNat)).take (kk - at_.toNat) ∧ kk < at_ + (encs (X.drop i.toNat)).length) → (bad = true → (kk : Int) < at_) → kk ≤ 6000 → at_ + 300 * d ≤ 6000 * 300 →
    rosarylaw3_PackCuts.l1 k (kk : Int) at_ bad X (X.length : Int) i (mk l) bad = some true := by
  induction d with
  | zero =>
    intro k i at_ bad l h0 hd hk hl hn hb hkk hat
    obtain ⟨k, rfl⟩ : ∃ m, k = m + 1 := ⟨k - 1, by omega⟩
    have : bad = true := by
      cases bad with
      | true => rfl
      | false =>
        have := (hn rfl)
        rw [List.drop_eq_nil_of_le (by omega)] at this
        simp [encs] at this
        omega
    subst this
    simp only [rosarylaw3_PackCuts.l1]
    rw [if_neg (by omega), rend_eq]
    simp only [Option.bind_some, Bool.not_true, Bool.false_and, Bool.false_eq_true, if_false]
    rw [rnum_eq l true (by omega) k (by omega), readN_bad]
    simp only [Option.bind_some]
    rw [if_pos (by simp), rwide_eq l true (by omega) k (by omega), readN_bad]
    rfl
  | succ d ih =>
    intro k i at_ bad l h0 hd hk hl hn hb hkk hat
    obtain ⟨k, rfl⟩ : ∃ m, k = m + 2 := ⟨k - 2, by omega⟩
    have hlt : i < (X.length : Int) := by omega
    have hdr := rdOf_lt X i h0 hlt
    have hmem : rdOf ByteArray.empty X i ∈ X := by
      have : rdOf ByteArray.empty X i ∈ X.drop i.toNat := by rw [hdr]; simp
      exact List.mem_of_mem_drop this
    have hsz := hs _ hmem
    obtain ⟨s, hse⟩ := mk_of (rdOf ByteArray.empty X i)
    rw [hse, mk_size] at hsz
    have hat0 : 0 ≤ at_ := by
      cases bad with
      | true => have := hb rfl; omega
      | false => exact (hn rfl).1
    have hw : wrap64 (at_ + wrap64 (1 + (s.length : Int))) = at_ + 1 + s.length := by
      rw [w64 (n := 1 + (s.length : Int)) (by omega) (by omega), w64 (by omega) (by omega)]; omega
    simp only [rosarylaw3_PackCuts.l1]
    rw [if_pos hlt, if_pos h0, if_pos hlt, rtext_eq l bad (by omega) (k + 1) (by omega), hse, mk_size]
    simp only [Option.bind_some, hw, mk_toList]
    have hw2 : wrap64 (i + 1) = i + 1 := w64 (by omega) (by omega)
    cases bad with
    | true =>
      have h1 := hb rfl
      rw [readT_bad, if_neg (by omega)]
      simp only [rosarylaw3_PackCuts.j3, Bool.false_eq_true, if_false, hw2]
      rw [if_pos (by omega), if_pos (by rw [mk_toList]), rbad_eq]
      simp only [Option.bind_some, if_true]
      refine ih k (i + 1) _ true l (by omega) (by omega) (by omega) hl (fun h => by cases h) (fun _ => by omega) hkk (by omega)
    | false =>
      obtain ⟨_, h2, h3, h4⟩ := hn rfl
      rw [hdr, hse, encs_cons, mk_data] at h3 h4
      obtain ⟨c1, c2⟩ := readT_cut s (encs (X.drop (i + 1).toNat)) hsz (kk - at_.toNat)
      rw [← h3] at c1 c2
      rw [List.length_append, encT_length] at h4
      by_cases hc : at_ + 1 + s.length ≤ (kk : Int)
      · rw [c1 (by omega), if_pos hc]
        simp only [Bool.false_eq_true, if_false, if_true, rbad_eq, Option.bind_some, rosarylaw3_PackCuts.j3, hw2]
        rw [if_neg (by omega)]
        refine ih k (i + 1) _ false _ (by omega) (by omega) (by omega) ?_ (fun _ => ⟨by omega, by omega, ?_, by omega⟩) (fun h => by cases h) hkk (by omega)
        · simp only [List.length_take]; omega
        · congr 1; omega
      · obtain ⟨l', e1, e2⟩ := c2 (by omega)
        rw [e1, if_neg hc]
        simp only [rosarylaw3_PackCuts.j3, Bool.false_eq_true, if_false, hw2]
        rw [if_pos (by omega), if_pos (by rw [mk_toList]), rbad_eq]
        simp only [Option.bind_some, if_true]
        exact ih k (i + 1) _ true l' (by omega) (by omega) (by omega) (by omega) (fun h => by cases h) (fun _ => by omega) hkk (by omega)

theorem cuts_l0 (a : Int) (X : List ByteArray) (hX : X.length ≤ 20) (ha : (Lit.int .i64 a).wf = true) (d : Nat) : ∀ (k : Nat) (i : Int) (b : List UInt8), 0 ≤ i → (X.length : Int) - i = d → d + 200 < k → b ++ encs (X.drop i.toNat) = encs X → b.length ≤ 256 * i.toNat → (∀ s ∈ X.take i.toNat, s.size ≤ 255) →
    rosarylaw3_PackCuts.l0 k X a (mk b) X (X.length : Int) i = some true := by
  induction d with
  | zero =>
    intro k i b h0 hd hk hb hbl hs
    obtain ⟨k, rfl⟩ : ∃ m, k = m + 1 := ⟨k - 1, by omega⟩
    rw [List.drop_eq_nil_of_le (by omega)] at hb
    rw [List.take_of_length_le (by omega)] at hs
    simp only [encs, List.flatMap_nil, List.append_nil] at hb
    simp only [rosarylaw3_PackCuts.l0]
    rw [if_neg (by omega), mk_toList, mk_size]
    by_cases hnil : b = []
    · rw [if_pos hnil]; rfl
    · have hp : 0 < b.length := List.length_pos_iff.2 hnil
      rw [if_neg hnil, if_neg (by omega)]
      obtain ⟨kk, e, h1⟩ : ∃ kk : Nat, Int.tmod (wrap64 (Int.tmod a (b.length : Int) + (b.length : Int))) (b.length : Int) = (kk : Int) ∧ kk < b.length := by
        have h1 : Int.tmod a (b.length : Int) < (b.length : Int) := Int.tmod_lt_of_pos _ (by omega)
        have h2 : -(b.length : Int) < Int.tmod a (b.length : Int) := by
          have h3 : Int.tmod (-a) (b.length : Int) < (b.length : Int) := Int.tmod_lt_of_pos _ (by omega)
          rw [Int.neg_tmod] at h3; omega
        rw [w64 (by omega) (by omega)]
        have h4 := Int.tmod_nonneg (b.length : Int) (show 0 ≤ Int.tmod a (b.length : Int) + (b.length : Int) by omega)
        have h5 : Int.tmod (Int.tmod a (b.length : Int) + (b.length : Int)) (b.length : Int) < (b.length : Int) := Int.tmod_lt_of_pos _ (by omega)
        exact ⟨(Int.tmod (Int.tmod a (b.length : Int) + (b.length : Int)) (b.length : Int)).toNat, by omega, by omega⟩
      rw [e, if_pos (by omega), if_pos (by omega), Int.toNat_natCast, mk_extract, from_eq]
      simp only [Option.bind_some]
      have hb2 : encs X = b := hb.symm
      refine cuts_l1 kk X hX hs X.length k 0 0 false _ (by omega) (by omega) (by omega) ?_ (fun _ => ⟨by omega, by omega, ?_, ?_⟩) (fun h => by cases h) (by omega) (by omega)
      · simp only [List.length_take]; omega
      · rw [show (0 : Int).toNat = 0 from rfl, List.drop_zero, List.drop_zero, hb2]
      · rw [show (0 : Int).toNat = 0 from rfl, List.drop_zero, hb2]; omega
  | succ d ih =>
    intro k i b h0 hd hk hb hbl hs
    obtain ⟨k, rfl⟩ : ∃ m, k = m + 1 := ⟨k - 1, by omega⟩
    have hlt : i < (X.length : Int) := by omega
    have hdr := rdOf_lt X i h0 hlt
    obtain ⟨s, hse⟩ := mk_of (rdOf ByteArray.empty X i)
    simp only [rosarylaw3_PackCuts.l0]
    rw [if_pos hlt, if_pos h0, if_pos hlt, hse]
    by_cases hc : s.length ≤ 255
    · rw [text_yes s hc k (by omega)]
      simp only [Option.bind_some, if_true]
      rw [if_pos (by rw [mk_size, mk_size, encT_length]; omega), mk_app, w64 (by omega) (by omega)]
      refine ih k (i + 1) _ (by omega) (by omega) (by omega) ?_ ?_ ?_
      · rw [hdr, hse, encs_cons, mk_data] at hb
        rw [List.append_assoc]; exact hb
      · rw [List.length_append, encT_length]; omega
      · rw [show (i + 1).toNat = i.toNat + 1 by omega, List.take_succ_eq_append_getElem (by omega)]
        intro x hx
        rcases List.mem_append.1 hx with hx | hx
        · exact hs x hx
        · have hx2 : x = X[i.toNat] := by simpa using hx
          have : rdOf ByteArray.empty X i = X[i.toNat] := by
            unfold rdOf
            rw [List.getD_eq_getElem?_getD, List.getElem?_eq_getElem (by omega)]; rfl
          rw [hx2, ← this, hse, mk_size]; exact hc
    · rw [text_no s (by omega) k]
      simp only [Option.bind_some, Bool.false_eq_true, if_false, mk_size]
      rw [decide_eq_true (by omega)]

theorem PackCuts : rosarylaw3_PackCuts.Pure := by
  intro X a _ ha
  refine ⟨400, ?_⟩
  unfold rosarylaw3_PackCuts.f
  have h0 : rosarylaw3_PackCuts.j0 400 X a true = some true := by
    simp only [rosarylaw3_PackCuts.j0, if_true]; rw [alive_eq _ (by omega)]; rfl
  by_cases h : (X.length : Int) > 20
  · rw [if_pos h, h0]
  rw [if_neg h, alive_eq _ (by omega), Option.bind_some]
  simp only [rosarylaw3_PackCuts.j0, Bool.not_true, Bool.false_eq_true, if_false]
  exact cuts_l0 a X (by omega) ha X.length 399 0 [] (by omega) (by omega) (by omega) (by simp) (by simp) (by simp)
end Go.Proofs.Ytnfdgbapionojaa.Pure
