/- Letters: a letter that is read. (written by genlt4.py) -/
import Derived.Test.YtgnenipkebelfaaGreatDoorLtJ
set_option maxRecDepth 100000
set_option linter.unusedVariables false
set_option linter.unusedSimpArgs false
namespace Go.Proofs.YtgnenipkebelfaaGreatDoor.Lt
open Go Go.Eng F Pk Bk

theorem listGo_len : ∀ (n : Nat) (o : List It) (x : Rd), (listGo n o x).1.length ≤ o.length + n
  | 0, o, x => Nat.le_refl _
  | n + 1, o, x => by
    unfold listGo
    split
    · simp
    · have := listGo_len n (o ++ [(x.text.1, x.text.2.text.1)]) x.text.2.text.2
      simp at this; omega
theorem rlistGo_len : ∀ (n : Nat) (o : List It) (x : Rd), (rlistGo n o x).1.length ≤ o.length + n
  | 0, o, x => Nat.le_refl _
  | n + 1, o, x => by
    unfold rlistGo
    split
    · simp
    · have := rlistGo_len n (o ++ [(x.text.1, x.text.2.text.1)]) x.text.2.text.2
      simp at this; omega
theorem list_len (x : Rd) : x.list.1.length ≤ 65535 := by
  have h1 := listGo_len x.num.1 [] x.num.2
  have h2 := num_lt x
  unfold Rd.list
  simp at h1; omega
theorem rlist_len (x : Rd) : x.rlist.1.length ≤ 65535 := by
  have h1 := rlistGo_len x.num.1 [] x.num.2
  have h2 := num_lt x
  unfold Rd.rlist
  simp at h1; omega
/-- A letter whose lists nobody else has. -/
def IsLO (n : Nat) (k : H) (c : List AV) (l : Ltr) : Prop :=
  ∃ v1 v2, c = ltc l v1 v2 ∧ OwnE k 2 v1 (l.ti.map itc) ∧ OwnE k 2 v2 (l.it.map itc) ∧ (∀ a ∈ foot v1, n ≤ a) ∧ (∀ a ∈ foot v2, n ≤ a) ∧ (∀ a ∈ foot v1, a ∉ foot v2) ∧ l.ti.length ≤ 65535 ∧ l.it.length ≤ 65535
theorem IsLO.isL {n : Nat} {k : H} {c : List AV} {l : Ltr} (h : IsLO n k c l) : IsL k c l := by
  obtain ⟨v1, v2, e, h1, h2, _, _, _, h3, h4⟩ := h
  exact ⟨v1, v2, e, h1.rds, h2.rds, by omega, by omega⟩
theorem IsLO.keep {n : Nat} {k k' : H} {c : List AV} {l : Ltr} {F : List Nat} (h : IsLO n k c l) (hc : Chg k k' F) (hF : ∀ a ∈ F, a < n) : IsLO n k' c l := by
  obtain ⟨v1, v2, e, h1, h2, f1, f2, f3, h3, h4⟩ := h
  exact ⟨v1, v2, e, h1.keep hc fun a ha hm => by have := f1 a ha; have := hF a hm; omega, h2.keep hc fun a ha hm => by have := f2 a ha; have := hF a hm; omega, f1, f2, f3, h3, h4⟩
theorem IsLO.more {n : Nat} {k : H} {c : List AV} {l : Ltr} (h : IsLO n k c l) (z : H) : IsLO n (k ++ z) c l := h.keep (Chg.app _ _ []) (by simp)
set_option maxHeartbeats 64000000 in
theorem read_call {fs : FuncId → Option SFunc} {ex : FuncId → List AV → M AV} (T : TblR fs ex) {k : H} {r : Nat} {x : Rd} (hr : k[r]? = some x.blk) (hx : x.b.length ≤ 281474976710656) :
    ∃ c k', call fs ex 39 [.ptr r 0 0] k = some (.agg c, k') ∧ IsLO k.length k' c (readW Rd.list x).1 ∧ k'[r]? = some (readW Rd.list x).2.blk ∧ (readW Rd.list x).2.b.length ≤ 281474976710656 ∧ Chg k k' [r] := by
  have hrk : r < k.length := (List.getElem?_eq_some_iff.1 hr).1
  obtain ⟨K0, hK0⟩ : ∃ K, K = k ++ [Blk.row 21 [[AV.int .i64 0, AV.int .i64 0, AV.int .i64 0, AV.int .i64 0, AV.int .i64 0, AV.str [], AV.str [], AV.str [], AV.int .i64 0, AV.int .i64 0, AV.str [], AV.nilslice, AV.bool false, AV.str [], AV.int .i64 0, AV.int .u64 0, AV.int .u64 0, AV.int .i64 0, AV.nilslice, AV.int .i64 0, AV.int .i64 0]] true true] := ⟨_, rfl⟩
  have hlen : K0.length = k.length + 1 := by rw [hK0]; simp
  have hz : K0[k.length]? = some (.row 21 [[.int .i64 0, .int .i64 0, .int .i64 0, .int .i64 0, .int .i64 0, .str [], .str [], .str [], .int .i64 0, .int .i64 0, .str [], .nilslice, .bool false, .str [], .int .i64 0, .int .u64 0, .int .u64 0, .int .i64 0, .nilslice, .int .i64 0, .int .i64 0]] true true) := by rw [hK0]; simp
  have hb : k ++ [Blk.row 21 [[AV.int .i64 0, AV.int .i64 0, AV.int .i64 0, AV.int .i64 0, AV.int .i64 0, AV.str [], AV.str [], AV.str [], AV.int .i64 0, AV.int .i64 0, AV.str [], AV.nilslice, AV.bool false, AV.str [], AV.int .i64 0, AV.int .u64 0, AV.int .u64 0, AV.int .i64 0, AV.nilslice, AV.int .i64 0, AV.int .i64 0]] true true, Blk.row 21 [[AV.int .i64 0, AV.int .i64 0, AV.int .i64 0, AV.int .i64 0, AV.int .i64 0, AV.str [], AV.str [], AV.str [], AV.int .i64 0, AV.int .i64 0, AV.str [], AV.nilslice, AV.bool false, AV.str [], AV.int .i64 0, AV.int .u64 0, AV.int .u64 0, AV.int .i64 0, AV.nilslice, AV.int .i64 0, AV.int .i64 0]] true true] = K0 ++ [Blk.row 21 [[AV.int .i64 0, AV.int .i64 0, AV.int .i64 0, AV.int .i64 0, AV.int .i64 0, AV.str [], AV.str [], AV.str [], AV.int .i64 0, AV.int .i64 0, AV.str [], AV.nilslice, AV.bool false, AV.str [], AV.int .i64 0, AV.int .u64 0, AV.int .u64 0, AV.int .i64 0, AV.nilslice, AV.int .i64 0, AV.int .i64 0]] true true] := by rw [hK0]; simp
  obtain ⟨K, hK⟩ : ∃ K, K = k ++ [Blk.row 21 [[AV.int .i64 0, AV.int .i64 0, AV.int .i64 0, AV.int .i64 0, AV.int .i64 0, AV.str [], AV.str [], AV.str [], AV.int .i64 0, AV.int .i64 0, AV.str [], AV.nilslice, AV.bool false, AV.str [], AV.int .i64 0, AV.int .u64 0, AV.int .u64 0, AV.int .i64 0, AV.nilslice, AV.int .i64 0, AV.int .i64 0]] true true, Blk.row 21 [[AV.int .i64 0, AV.int .i64 0, AV.int .i64 0, AV.int .i64 0, AV.int .i64 0, AV.str [], AV.str [], AV.str [], AV.int .i64 0, AV.int .i64 0, AV.str [], AV.nilslice, AV.bool false, AV.str [], AV.int .i64 0, AV.int .u64 0, AV.int .u64 0, AV.int .i64 0, AV.nilslice, AV.int .i64 0, AV.int .i64 0]] true true] := ⟨_, rfl⟩
  have s0 : St K0 K r (k.length + 1) 21 x [.int .i64 0, .int .i64 0, .int .i64 0, .int .i64 0, .int .i64 0, .str [], .str [], .str [], .int .i64 0, .int .i64 0, .str [], .nilslice, .bool false, .str [], .int .i64 0, .int .u64 0, .int .u64 0, .int .i64 0, .nilslice, .int .i64 0, .int .i64 0] [] := by
    rw [hK, hb]
    exact ⟨by omega, by omega, get_app (by rw [hK0]; exact get_app hr), hx, by rw [← hlen]; simp, Chg.app _ _ _, by simp, List.Pairwise.nil⟩
  obtain ⟨a1, ha1⟩ : ∃ a, a = x.num := ⟨_, rfl⟩
  obtain ⟨a2, ha2⟩ : ∃ a, a = a1.2.num := ⟨_, rfl⟩
  obtain ⟨a3, ha3⟩ : ∃ a, a = a2.2.num := ⟨_, rfl⟩
  obtain ⟨a4, ha4⟩ : ∃ a, a = a3.2.num := ⟨_, rfl⟩
  obtain ⟨a5, ha5⟩ : ∃ a, a = a4.2.num := ⟨_, rfl⟩
  obtain ⟨a6, ha6⟩ : ∃ a, a = a5.2.num := ⟨_, rfl⟩
  obtain ⟨a7, ha7⟩ : ∃ a, a = a6.2.num := ⟨_, rfl⟩
  obtain ⟨_, e1, K1, rfl, s1⟩ := nums_at T (os := [0, 1, 2, 3, 17, 19, 20]) s0 (by simp) (by decide) (by simp)
  have g1 : numsGo [0, 1, 2, 3, 17, 19, 20] [.int .i64 0, .int .i64 0, .int .i64 0, .int .i64 0, .int .i64 0, .str [], .str [], .str [], .int .i64 0, .int .i64 0, .str [], .nilslice, .bool false, .str [], .int .i64 0, .int .u64 0, .int .u64 0, .int .i64 0, .nilslice, .int .i64 0, .int .i64 0] x = ([.int .i64 (a1.1 : Nat), .int .i64 (a2.1 : Nat), .int .i64 (a3.1 : Nat), .int .i64 (a4.1 : Nat), .int .i64 0, .str [], .str [], .str [], .int .i64 0, .int .i64 0, .str [], .nilslice, .bool false, .str [], .int .i64 0, .int .u64 0, .int .u64 0, .int .i64 (a5.1 : Nat), .nilslice, .int .i64 (a6.1 : Nat), .int .i64 (a7.1 : Nat)], a7.2) := by
    rw [ha7, ha6, ha5, ha4, ha3, ha2, ha1]; rfl
  rw [g1] at s1
  simp only [List.length_cons, List.length_nil, List.map_cons, List.map_nil, Nat.zero_add, Nat.reduceAdd] at e1
  obtain ⟨a8, ha8⟩ : ∃ a, a = a7.2.wide := ⟨_, rfl⟩
  obtain ⟨K2, e2, s2⟩ := s1.wide T
  rw [← ha8] at e2 s2
  have q3 := s2.hq
  have s3 := s2.set [.int .i64 (a1.1 : Nat), .int .i64 (a2.1 : Nat), .int .i64 (a3.1 : Nat), .int .i64 (a4.1 : Nat), .int .i64 0, .str [], .str [], .str [], .int .i64 0, .int .i64 0, .str [], .nilslice, .bool false, .str [], .int .i64 0, .int .u64 (a8.1 : Nat), .int .u64 0, .int .i64 (a5.1 : Nat), .nilslice, .int .i64 (a6.1 : Nat), .int .i64 (a7.1 : Nat)]
  obtain ⟨K3, hK3⟩ : ∃ K', K' = K2.set (k.length + 1) (Blk.row 21 [[AV.int .i64 (a1.1 : Nat), AV.int .i64 (a2.1 : Nat), AV.int .i64 (a3.1 : Nat), AV.int .i64 (a4.1 : Nat), AV.int .i64 0, AV.str [], AV.str [], AV.str [], AV.int .i64 0, AV.int .i64 0, AV.str [], AV.nilslice, AV.bool false, AV.str [], AV.int .i64 0, AV.int .u64 (a8.1 : Nat), AV.int .u64 0, AV.int .i64 (a5.1 : Nat), AV.nilslice, AV.int .i64 (a6.1 : Nat), AV.int .i64 (a7.1 : Nat)]] true true) := ⟨_, rfl⟩
  rw [← hK3] at s3
  obtain ⟨a9, ha9⟩ : ∃ a, a = a8.2.wide := ⟨_, rfl⟩
  obtain ⟨K4, e4, s4⟩ := s3.wide T
  rw [← ha9] at e4 s4
  have q5 := s4.hq
  have s5 := s4.set [.int .i64 (a1.1 : Nat), .int .i64 (a2.1 : Nat), .int .i64 (a3.1 : Nat), .int .i64 (a4.1 : Nat), .int .i64 0, .str [], .str [], .str [], .int .i64 0, .int .i64 0, .str [], .nilslice, .bool false, .str [], .int .i64 0, .int .u64 (a8.1 : Nat), .int .u64 (a9.1 : Nat), .int .i64 (a5.1 : Nat), .nilslice, .int .i64 (a6.1 : Nat), .int .i64 (a7.1 : Nat)]
  obtain ⟨K5, hK5⟩ : ∃ K', K' = K4.set (k.length + 1) (Blk.row 21 [[AV.int .i64 (a1.1 : Nat), AV.int .i64 (a2.1 : Nat), AV.int .i64 (a3.1 : Nat), AV.int .i64 (a4.1 : Nat), AV.int .i64 0, AV.str [], AV.str [], AV.str [], AV.int .i64 0, AV.int .i64 0, AV.str [], AV.nilslice, AV.bool false, AV.str [], AV.int .i64 0, AV.int .u64 (a8.1 : Nat), AV.int .u64 (a9.1 : Nat), AV.int .i64 (a5.1 : Nat), AV.nilslice, AV.int .i64 (a6.1 : Nat), AV.int .i64 (a7.1 : Nat)]] true true) := ⟨_, rfl⟩
  rw [← hK5] at s5
  obtain ⟨a10, ha10⟩ : ∃ a, a = a9.2.list := ⟨_, rfl⟩
  obtain ⟨_, e6, va10, K6, rfl, s6⟩ := s5.list T
  have hla10 : a10.1.length ≤ 65535 := by rw [ha10]; exact list_len _
  rw [← ha10] at s6
  have q7 := s6.hq
  have s7 := s6.set [.int .i64 (a1.1 : Nat), .int .i64 (a2.1 : Nat), .int .i64 (a3.1 : Nat), .int .i64 (a4.1 : Nat), .int .i64 0, .str [], .str [], .str [], .int .i64 0, .int .i64 0, .str [], .nilslice, .bool false, .str [], .int .i64 0, .int .u64 (a8.1 : Nat), .int .u64 (a9.1 : Nat), .int .i64 (a5.1 : Nat), va10, .int .i64 (a6.1 : Nat), .int .i64 (a7.1 : Nat)]
  obtain ⟨K7, hK7⟩ : ∃ K', K' = K6.set (k.length + 1) (Blk.row 21 [[AV.int .i64 (a1.1 : Nat), AV.int .i64 (a2.1 : Nat), AV.int .i64 (a3.1 : Nat), AV.int .i64 (a4.1 : Nat), AV.int .i64 0, AV.str [], AV.str [], AV.str [], AV.int .i64 0, AV.int .i64 0, AV.str [], AV.nilslice, AV.bool false, AV.str [], AV.int .i64 0, AV.int .u64 (a8.1 : Nat), AV.int .u64 (a9.1 : Nat), AV.int .i64 (a5.1 : Nat), va10, AV.int .i64 (a6.1 : Nat), AV.int .i64 (a7.1 : Nat)]] true true) := ⟨_, rfl⟩
  rw [← hK7] at s7
  obtain ⟨a11, ha11⟩ : ∃ a, a = a10.2.num := ⟨_, rfl⟩
  obtain ⟨_, e8, K8, rfl, s8⟩ := nums_at T (os := [4]) s7 (by simp) (by decide) (by simp)
  have g8 : numsGo [4] [.int .i64 (a1.1 : Nat), .int .i64 (a2.1 : Nat), .int .i64 (a3.1 : Nat), .int .i64 (a4.1 : Nat), .int .i64 0, .str [], .str [], .str [], .int .i64 0, .int .i64 0, .str [], .nilslice, .bool false, .str [], .int .i64 0, .int .u64 (a8.1 : Nat), .int .u64 (a9.1 : Nat), .int .i64 (a5.1 : Nat), va10, .int .i64 (a6.1 : Nat), .int .i64 (a7.1 : Nat)] a10.2 = ([.int .i64 (a1.1 : Nat), .int .i64 (a2.1 : Nat), .int .i64 (a3.1 : Nat), .int .i64 (a4.1 : Nat), .int .i64 (a11.1 : Nat), .str [], .str [], .str [], .int .i64 0, .int .i64 0, .str [], .nilslice, .bool false, .str [], .int .i64 0, .int .u64 (a8.1 : Nat), .int .u64 (a9.1 : Nat), .int .i64 (a5.1 : Nat), va10, .int .i64 (a6.1 : Nat), .int .i64 (a7.1 : Nat)], a11.2) := by
    rw [ha11]; rfl
  rw [g8] at s8
  simp only [List.length_cons, List.length_nil, List.map_cons, List.map_nil, Nat.zero_add, Nat.reduceAdd] at e8
  obtain ⟨a12, ha12⟩ : ∃ a, a = a11.2.text := ⟨_, rfl⟩
  obtain ⟨K9, e9, s9⟩ := s8.text T
  rw [← ha12] at e9 s9
  have q10 := s9.hq
  have s10 := s9.set [.int .i64 (a1.1 : Nat), .int .i64 (a2.1 : Nat), .int .i64 (a3.1 : Nat), .int .i64 (a4.1 : Nat), .int .i64 (a11.1 : Nat), .str a12.1, .str [], .str [], .int .i64 0, .int .i64 0, .str [], .nilslice, .bool false, .str [], .int .i64 0, .int .u64 (a8.1 : Nat), .int .u64 (a9.1 : Nat), .int .i64 (a5.1 : Nat), va10, .int .i64 (a6.1 : Nat), .int .i64 (a7.1 : Nat)]
  obtain ⟨K10, hK10⟩ : ∃ K', K' = K9.set (k.length + 1) (Blk.row 21 [[AV.int .i64 (a1.1 : Nat), AV.int .i64 (a2.1 : Nat), AV.int .i64 (a3.1 : Nat), AV.int .i64 (a4.1 : Nat), AV.int .i64 (a11.1 : Nat), AV.str a12.1, AV.str [], AV.str [], AV.int .i64 0, AV.int .i64 0, AV.str [], AV.nilslice, AV.bool false, AV.str [], AV.int .i64 0, AV.int .u64 (a8.1 : Nat), AV.int .u64 (a9.1 : Nat), AV.int .i64 (a5.1 : Nat), va10, AV.int .i64 (a6.1 : Nat), AV.int .i64 (a7.1 : Nat)]] true true) := ⟨_, rfl⟩
  rw [← hK10] at s10
  obtain ⟨a13, ha13⟩ : ∃ a, a = a12.2.text := ⟨_, rfl⟩
  obtain ⟨K11, e11, s11⟩ := s10.text T
  rw [← ha13] at e11 s11
  have q12 := s11.hq
  have s12 := s11.set [.int .i64 (a1.1 : Nat), .int .i64 (a2.1 : Nat), .int .i64 (a3.1 : Nat), .int .i64 (a4.1 : Nat), .int .i64 (a11.1 : Nat), .str a12.1, .str a13.1, .str [], .int .i64 0, .int .i64 0, .str [], .nilslice, .bool false, .str [], .int .i64 0, .int .u64 (a8.1 : Nat), .int .u64 (a9.1 : Nat), .int .i64 (a5.1 : Nat), va10, .int .i64 (a6.1 : Nat), .int .i64 (a7.1 : Nat)]
  obtain ⟨K12, hK12⟩ : ∃ K', K' = K11.set (k.length + 1) (Blk.row 21 [[AV.int .i64 (a1.1 : Nat), AV.int .i64 (a2.1 : Nat), AV.int .i64 (a3.1 : Nat), AV.int .i64 (a4.1 : Nat), AV.int .i64 (a11.1 : Nat), AV.str a12.1, AV.str a13.1, AV.str [], AV.int .i64 0, AV.int .i64 0, AV.str [], AV.nilslice, AV.bool false, AV.str [], AV.int .i64 0, AV.int .u64 (a8.1 : Nat), AV.int .u64 (a9.1 : Nat), AV.int .i64 (a5.1 : Nat), va10, AV.int .i64 (a6.1 : Nat), AV.int .i64 (a7.1 : Nat)]] true true) := ⟨_, rfl⟩
  rw [← hK12] at s12
  obtain ⟨a14, ha14⟩ : ∃ a, a = a13.2.text := ⟨_, rfl⟩
  obtain ⟨K13, e13, s13⟩ := s12.text T
  rw [← ha14] at e13 s13
  have q14 := s13.hq
  have s14 := s13.set [.int .i64 (a1.1 : Nat), .int .i64 (a2.1 : Nat), .int .i64 (a3.1 : Nat), .int .i64 (a4.1 : Nat), .int .i64 (a11.1 : Nat), .str a12.1, .str a13.1, .str a14.1, .int .i64 0, .int .i64 0, .str [], .nilslice, .bool false, .str [], .int .i64 0, .int .u64 (a8.1 : Nat), .int .u64 (a9.1 : Nat), .int .i64 (a5.1 : Nat), va10, .int .i64 (a6.1 : Nat), .int .i64 (a7.1 : Nat)]
  obtain ⟨K14, hK14⟩ : ∃ K', K' = K13.set (k.length + 1) (Blk.row 21 [[AV.int .i64 (a1.1 : Nat), AV.int .i64 (a2.1 : Nat), AV.int .i64 (a3.1 : Nat), AV.int .i64 (a4.1 : Nat), AV.int .i64 (a11.1 : Nat), AV.str a12.1, AV.str a13.1, AV.str a14.1, AV.int .i64 0, AV.int .i64 0, AV.str [], AV.nilslice, AV.bool false, AV.str [], AV.int .i64 0, AV.int .u64 (a8.1 : Nat), AV.int .u64 (a9.1 : Nat), AV.int .i64 (a5.1 : Nat), va10, AV.int .i64 (a6.1 : Nat), AV.int .i64 (a7.1 : Nat)]] true true) := ⟨_, rfl⟩
  rw [← hK14] at s14
  obtain ⟨a15, ha15⟩ : ∃ a, a = a14.2.num := ⟨_, rfl⟩
  obtain ⟨_, e15, K15, rfl, s15⟩ := nums_at T (os := [8]) s14 (by simp) (by decide) (by simp)
  have g15 : numsGo [8] [.int .i64 (a1.1 : Nat), .int .i64 (a2.1 : Nat), .int .i64 (a3.1 : Nat), .int .i64 (a4.1 : Nat), .int .i64 (a11.1 : Nat), .str a12.1, .str a13.1, .str a14.1, .int .i64 0, .int .i64 0, .str [], .nilslice, .bool false, .str [], .int .i64 0, .int .u64 (a8.1 : Nat), .int .u64 (a9.1 : Nat), .int .i64 (a5.1 : Nat), va10, .int .i64 (a6.1 : Nat), .int .i64 (a7.1 : Nat)] a14.2 = ([.int .i64 (a1.1 : Nat), .int .i64 (a2.1 : Nat), .int .i64 (a3.1 : Nat), .int .i64 (a4.1 : Nat), .int .i64 (a11.1 : Nat), .str a12.1, .str a13.1, .str a14.1, .int .i64 (a15.1 : Nat), .int .i64 0, .str [], .nilslice, .bool false, .str [], .int .i64 0, .int .u64 (a8.1 : Nat), .int .u64 (a9.1 : Nat), .int .i64 (a5.1 : Nat), va10, .int .i64 (a6.1 : Nat), .int .i64 (a7.1 : Nat)], a15.2) := by
    rw [ha15]; rfl
  rw [g15] at s15
  simp only [List.length_cons, List.length_nil, List.map_cons, List.map_nil, Nat.zero_add, Nat.reduceAdd] at e15
  obtain ⟨a16, ha16⟩ : ∃ a, a = a15.2.num := ⟨_, rfl⟩
  obtain ⟨K16, e16, s16⟩ := s15.num T
  rw [← ha16] at e16 s16
  have q17 := s16.hq
  have s17 := s16.set [.int .i64 (a1.1 : Nat), .int .i64 (a2.1 : Nat), .int .i64 (a3.1 : Nat), .int .i64 (a4.1 : Nat), .int .i64 (a11.1 : Nat), .str a12.1, .str a13.1, .str a14.1, .int .i64 (a15.1 : Nat), .int .i64 (a16.1 : Nat), .str [], .nilslice, .bool false, .str [], .int .i64 0, .int .u64 (a8.1 : Nat), .int .u64 (a9.1 : Nat), .int .i64 (a5.1 : Nat), va10, .int .i64 (a6.1 : Nat), .int .i64 (a7.1 : Nat)]
  obtain ⟨K17, hK17⟩ : ∃ K', K' = K16.set (k.length + 1) (Blk.row 21 [[AV.int .i64 (a1.1 : Nat), AV.int .i64 (a2.1 : Nat), AV.int .i64 (a3.1 : Nat), AV.int .i64 (a4.1 : Nat), AV.int .i64 (a11.1 : Nat), AV.str a12.1, AV.str a13.1, AV.str a14.1, AV.int .i64 (a15.1 : Nat), AV.int .i64 (a16.1 : Nat), AV.str [], AV.nilslice, AV.bool false, AV.str [], AV.int .i64 0, AV.int .u64 (a8.1 : Nat), AV.int .u64 (a9.1 : Nat), AV.int .i64 (a5.1 : Nat), va10, AV.int .i64 (a6.1 : Nat), AV.int .i64 (a7.1 : Nat)]] true true) := ⟨_, rfl⟩
  rw [← hK17] at s17
  obtain ⟨a17, ha17⟩ : ∃ a, a = a16.2.text := ⟨_, rfl⟩
  obtain ⟨K18, e18, s18⟩ := s17.text T
  rw [← ha17] at e18 s18
  have q19 := s18.hq
  have s19 := s18.set [.int .i64 (a1.1 : Nat), .int .i64 (a2.1 : Nat), .int .i64 (a3.1 : Nat), .int .i64 (a4.1 : Nat), .int .i64 (a11.1 : Nat), .str a12.1, .str a13.1, .str a14.1, .int .i64 (a15.1 : Nat), .int .i64 (a16.1 : Nat), .str a17.1, .nilslice, .bool false, .str [], .int .i64 0, .int .u64 (a8.1 : Nat), .int .u64 (a9.1 : Nat), .int .i64 (a5.1 : Nat), va10, .int .i64 (a6.1 : Nat), .int .i64 (a7.1 : Nat)]
  obtain ⟨K19, hK19⟩ : ∃ K', K' = K18.set (k.length + 1) (Blk.row 21 [[AV.int .i64 (a1.1 : Nat), AV.int .i64 (a2.1 : Nat), AV.int .i64 (a3.1 : Nat), AV.int .i64 (a4.1 : Nat), AV.int .i64 (a11.1 : Nat), AV.str a12.1, AV.str a13.1, AV.str a14.1, AV.int .i64 (a15.1 : Nat), AV.int .i64 (a16.1 : Nat), AV.str a17.1, AV.nilslice, AV.bool false, AV.str [], AV.int .i64 0, AV.int .u64 (a8.1 : Nat), AV.int .u64 (a9.1 : Nat), AV.int .i64 (a5.1 : Nat), va10, AV.int .i64 (a6.1 : Nat), AV.int .i64 (a7.1 : Nat)]] true true) := ⟨_, rfl⟩
  rw [← hK19] at s19
  obtain ⟨a18, ha18⟩ : ∃ a, a = a17.2.list := ⟨_, rfl⟩
  obtain ⟨_, e20, va18, K20, rfl, s20⟩ := s19.list T
  have hla18 : a18.1.length ≤ 65535 := by rw [ha18]; exact list_len _
  rw [← ha18] at s20
  have q21 := s20.hq
  have s21 := s20.set [.int .i64 (a1.1 : Nat), .int .i64 (a2.1 : Nat), .int .i64 (a3.1 : Nat), .int .i64 (a4.1 : Nat), .int .i64 (a11.1 : Nat), .str a12.1, .str a13.1, .str a14.1, .int .i64 (a15.1 : Nat), .int .i64 (a16.1 : Nat), .str a17.1, va18, .bool false, .str [], .int .i64 0, .int .u64 (a8.1 : Nat), .int .u64 (a9.1 : Nat), .int .i64 (a5.1 : Nat), va10, .int .i64 (a6.1 : Nat), .int .i64 (a7.1 : Nat)]
  obtain ⟨K21, hK21⟩ : ∃ K', K' = K20.set (k.length + 1) (Blk.row 21 [[AV.int .i64 (a1.1 : Nat), AV.int .i64 (a2.1 : Nat), AV.int .i64 (a3.1 : Nat), AV.int .i64 (a4.1 : Nat), AV.int .i64 (a11.1 : Nat), AV.str a12.1, AV.str a13.1, AV.str a14.1, AV.int .i64 (a15.1 : Nat), AV.int .i64 (a16.1 : Nat), AV.str a17.1, va18, AV.bool false, AV.str [], AV.int .i64 0, AV.int .u64 (a8.1 : Nat), AV.int .u64 (a9.1 : Nat), AV.int .i64 (a5.1 : Nat), va10, AV.int .i64 (a6.1 : Nat), AV.int .i64 (a7.1 : Nat)]] true true) := ⟨_, rfl⟩
  rw [← hK21] at s21
  obtain ⟨a19, ha19⟩ : ∃ a, a = a18.2.num := ⟨_, rfl⟩
  obtain ⟨K22, e22, s22⟩ := s21.num T
  rw [← ha19] at e22 s22
  obtain ⟨bm, hbm⟩ : ∃ b, b = (a19.1 == 1) := ⟨_, rfl⟩
  have hbi : (((a19.1 : Nat) : Int) == 1) = bm := by
    rw [hbm]
    by_cases h : a19.1 = 1
    · rw [h]; rfl
    · have h1 : (((a19.1 : Nat) : Int) == 1) = false := by simp; omega
      have h2 : (a19.1 == 1) = false := by simpa using h
      rw [h1, h2]
  have q23 := s22.hq
  have s23 := s22.set [.int .i64 (a1.1 : Nat), .int .i64 (a2.1 : Nat), .int .i64 (a3.1 : Nat), .int .i64 (a4.1 : Nat), .int .i64 (a11.1 : Nat), .str a12.1, .str a13.1, .str a14.1, .int .i64 (a15.1 : Nat), .int .i64 (a16.1 : Nat), .str a17.1, va18, .bool bm, .str [], .int .i64 0, .int .u64 (a8.1 : Nat), .int .u64 (a9.1 : Nat), .int .i64 (a5.1 : Nat), va10, .int .i64 (a6.1 : Nat), .int .i64 (a7.1 : Nat)]
  obtain ⟨K23, hK23⟩ : ∃ K', K' = K22.set (k.length + 1) (Blk.row 21 [[AV.int .i64 (a1.1 : Nat), AV.int .i64 (a2.1 : Nat), AV.int .i64 (a3.1 : Nat), AV.int .i64 (a4.1 : Nat), AV.int .i64 (a11.1 : Nat), AV.str a12.1, AV.str a13.1, AV.str a14.1, AV.int .i64 (a15.1 : Nat), AV.int .i64 (a16.1 : Nat), AV.str a17.1, va18, AV.bool bm, AV.str [], AV.int .i64 0, AV.int .u64 (a8.1 : Nat), AV.int .u64 (a9.1 : Nat), AV.int .i64 (a5.1 : Nat), va10, AV.int .i64 (a6.1 : Nat), AV.int .i64 (a7.1 : Nat)]] true true) := ⟨_, rfl⟩
  rw [← hK23] at s23
  obtain ⟨a20, ha20⟩ : ∃ a, a = a19.2.text := ⟨_, rfl⟩
  obtain ⟨K24, e24, s24⟩ := s23.text T
  rw [← ha20] at e24 s24
  have q25 := s24.hq
  have s25 := s24.set [.int .i64 (a1.1 : Nat), .int .i64 (a2.1 : Nat), .int .i64 (a3.1 : Nat), .int .i64 (a4.1 : Nat), .int .i64 (a11.1 : Nat), .str a12.1, .str a13.1, .str a14.1, .int .i64 (a15.1 : Nat), .int .i64 (a16.1 : Nat), .str a17.1, va18, .bool bm, .str a20.1, .int .i64 0, .int .u64 (a8.1 : Nat), .int .u64 (a9.1 : Nat), .int .i64 (a5.1 : Nat), va10, .int .i64 (a6.1 : Nat), .int .i64 (a7.1 : Nat)]
  obtain ⟨K25, hK25⟩ : ∃ K', K' = K24.set (k.length + 1) (Blk.row 21 [[AV.int .i64 (a1.1 : Nat), AV.int .i64 (a2.1 : Nat), AV.int .i64 (a3.1 : Nat), AV.int .i64 (a4.1 : Nat), AV.int .i64 (a11.1 : Nat), AV.str a12.1, AV.str a13.1, AV.str a14.1, AV.int .i64 (a15.1 : Nat), AV.int .i64 (a16.1 : Nat), AV.str a17.1, va18, AV.bool bm, AV.str a20.1, AV.int .i64 0, AV.int .u64 (a8.1 : Nat), AV.int .u64 (a9.1 : Nat), AV.int .i64 (a5.1 : Nat), va10, AV.int .i64 (a6.1 : Nat), AV.int .i64 (a7.1 : Nat)]] true true) := ⟨_, rfl⟩
  rw [← hK25] at s25
  obtain ⟨a21, ha21⟩ : ∃ a, a = a20.2.num := ⟨_, rfl⟩
  obtain ⟨_, e26, K26, rfl, s26⟩ := nums_at T (os := [14]) s25 (by simp) (by decide) (by simp)
  have g26 : numsGo [14] [.int .i64 (a1.1 : Nat), .int .i64 (a2.1 : Nat), .int .i64 (a3.1 : Nat), .int .i64 (a4.1 : Nat), .int .i64 (a11.1 : Nat), .str a12.1, .str a13.1, .str a14.1, .int .i64 (a15.1 : Nat), .int .i64 (a16.1 : Nat), .str a17.1, va18, .bool bm, .str a20.1, .int .i64 0, .int .u64 (a8.1 : Nat), .int .u64 (a9.1 : Nat), .int .i64 (a5.1 : Nat), va10, .int .i64 (a6.1 : Nat), .int .i64 (a7.1 : Nat)] a20.2 = ([.int .i64 (a1.1 : Nat), .int .i64 (a2.1 : Nat), .int .i64 (a3.1 : Nat), .int .i64 (a4.1 : Nat), .int .i64 (a11.1 : Nat), .str a12.1, .str a13.1, .str a14.1, .int .i64 (a15.1 : Nat), .int .i64 (a16.1 : Nat), .str a17.1, va18, .bool bm, .str a20.1, .int .i64 (a21.1 : Nat), .int .u64 (a8.1 : Nat), .int .u64 (a9.1 : Nat), .int .i64 (a5.1 : Nat), va10, .int .i64 (a6.1 : Nat), .int .i64 (a7.1 : Nat)], a21.2) := by
    rw [ha21]; rfl
  rw [g26] at s26
  simp only [List.length_cons, List.length_nil, List.map_cons, List.map_nil, Nat.zero_add, Nat.reduceAdd] at e26
  have qz := s26.hq
  have qp : K26[k.length]? = some (.row 21 [[.int .i64 0, .int .i64 0, .int .i64 0, .int .i64 0, .int .i64 0, .str [], .str [], .str [], .int .i64 0, .int .i64 0, .str [], .nilslice, .bool false, .str [], .int .i64 0, .int .u64 0, .int .u64 0, .int .i64 0, .nilslice, .int .i64 0, .int .i64 0]] true true) := s26.chg.2 _ _ (by simp; omega) hz
  have c1 := (s26.own (va18, a18.1) (by simp)).1.rds.cells
  have c2 := (s26.own (va10, a10.1) (by simp)).1.rds.cells
  refine ⟨[.int .i64 (a1.1 : Nat), .int .i64 (a2.1 : Nat), .int .i64 (a3.1 : Nat), .int .i64 (a4.1 : Nat), .int .i64 (a11.1 : Nat), .str a12.1, .str a13.1, .str a14.1, .int .i64 (a15.1 : Nat), .int .i64 (a16.1 : Nat), .str a17.1, va18, .bool bm, .str a20.1, .int .i64 (a21.1 : Nat), .int .u64 (a8.1 : Nat), .int .u64 (a9.1 : Nat), .int .i64 (a5.1 : Nat), va10, .int .i64 (a6.1 : Nat), .int .i64 (a7.1 : Nat)], K26.set k.length (.row 21 [[.int .i64 (a1.1 : Nat), .int .i64 (a2.1 : Nat), .int .i64 (a3.1 : Nat), .int .i64 (a4.1 : Nat), .int .i64 (a11.1 : Nat), .str a12.1, .str a13.1, .str a14.1, .int .i64 (a15.1 : Nat), .int .i64 (a16.1 : Nat), .str a17.1, va18, .bool bm, .str a20.1, .int .i64 (a21.1 : Nat), .int .u64 (a8.1 : Nat), .int .u64 (a9.1 : Nat), .int .i64 (a5.1 : Nat), va10, .int .i64 (a6.1 : Nat), .int .i64 (a7.1 : Nat)]] true true), ?_, ?_⟩
  · rw [call_eq fs ex (f := 39) (sf := sf39) T.read]
    simp [sf39, evB, recheck, wantsOp, AV.same, sames, eqCells, eqLeaf, toL_some, asc, fzero, fnone, List.map_cons, List.map_nil, resVals, resVal, resOf, partV, fillA, putCells, fillEls, strBin, minV, optNat, appendEls, elsOf, sliceSlV, sliceStrV, List.replicate, List.getElem?_append_left, List.getElem?_append_right, List.set_append_left, List.set_append_right, List.getElem?_set_self, List.getElem?_set_ne, ← hK, e1, e2, q3, get_app q3, set_app q3, get_set_same q3, get_set_app q3, set_set_app q3, len_beq q3, beq_len q3, ← hK3, e4, q5, get_app q5, set_app q5, get_set_same q5, get_set_app q5, set_set_app q5, len_beq q5, beq_len q5, ← hK5, e6, q7, get_app q7, set_app q7, get_set_same q7, get_set_app q7, set_set_app q7, len_beq q7, beq_len q7, ← hK7, e8, e9, q10, get_app q10, set_app q10, get_set_same q10, get_set_app q10, set_set_app q10, len_beq q10, beq_len q10, ← hK10, e11, q12, get_app q12, set_app q12, get_set_same q12, get_set_app q12, set_set_app q12, len_beq q12, beq_len q12, ← hK12, e13, q14, get_app q14, set_app q14, get_set_same q14, get_set_app q14, set_set_app q14, len_beq q14, beq_len q14, ← hK14, e15, e16, q17, get_app q17, set_app q17, get_set_same q17, get_set_app q17, set_set_app q17, len_beq q17, beq_len q17, ← hK17, e18, q19, get_app q19, set_app q19, get_set_same q19, get_set_app q19, set_set_app q19, len_beq q19, beq_len q19, ← hK19, e20, q21, get_app q21, set_app q21, get_set_same q21, get_set_app q21, set_set_app q21, len_beq q21, beq_len q21, ← hK21, e22, hbi, q23, get_app q23, set_app q23, get_set_same q23, get_set_app q23, set_set_app q23, len_beq q23, beq_len q23, ← hK23, e24, q25, get_app q25, set_app q25, get_set_same q25, get_set_app q25, set_set_app q25, len_beq q25, beq_len q25, ← hK25, e26, qz, get_app qz, set_app qz, get_set_same qz, get_set_app qz, set_set_app qz, len_beq qz, beq_len qz, qp, get_app qp, set_app qp, get_set_same qp, get_set_app qp, set_set_app qp, len_beq qp, beq_len qp, c1.1, c1.2.1, c1.2.2, c2.1, c2.2.1, c2.2.2]
  have hW : readW Rd.list x = (⟨(a1.1 : Nat), (a2.1 : Nat), (a3.1 : Nat), (a4.1 : Nat), (a11.1 : Nat), a12.1, a13.1, a14.1, (a15.1 : Nat), (a16.1 : Nat), a17.1, a18.1, bm, a20.1, (a21.1 : Nat), (a8.1 : Nat), (a9.1 : Nat), (a5.1 : Nat), a10.1, (a6.1 : Nat), (a7.1 : Nat)⟩, a21.2) := by
    rw [ha21, ha20, hbm, ha19, ha18, ha17, ha16, ha15, ha14, ha13, ha12, ha11, ha10, ha9, ha8, ha7, ha6, ha5, ha4, ha3, ha2, ha1]; rfl
  rw [hW]
  have hs := s26.apart
  have hcg : Chg K26 (K26.set k.length (.row 21 [[.int .i64 (a1.1 : Nat), .int .i64 (a2.1 : Nat), .int .i64 (a3.1 : Nat), .int .i64 (a4.1 : Nat), .int .i64 (a11.1 : Nat), .str a12.1, .str a13.1, .str a14.1, .int .i64 (a15.1 : Nat), .int .i64 (a16.1 : Nat), .str a17.1, va18, .bool bm, .str a20.1, .int .i64 (a21.1 : Nat), .int .u64 (a8.1 : Nat), .int .u64 (a9.1 : Nat), .int .i64 (a5.1 : Nat), va10, .int .i64 (a6.1 : Nat), .int .i64 (a7.1 : Nat)]] true true)) [k.length] := (Chg.refl _ _).set (.inl (by simp))
  obtain ⟨o1, f1⟩ := s26.own (va18, a18.1) (by simp)
  obtain ⟨o2, f2⟩ := s26.own (va10, a10.1) (by simp)
  refine ⟨⟨va18, va10, rfl, o1.keep hcg (fun a ha => ?_), o2.keep hcg (fun a ha => ?_), fun a ha => ?_, fun a ha => ?_, fun a ha => ?_, hla18, hla10⟩, hcg.2 _ _ (by simp; omega) s26.hr, s26.hx, ?_⟩
  · have := (f1 a ha).2; simp; omega
  · have := (f2 a ha).2; simp; omega
  · have := (f1 a ha).2; omega
  · have := (f2 a ha).2; omega
  · exact (List.pairwise_cons.1 hs).1 (va10, a10.1) (by simp) a ha
  · have h1 : Chg k K0 [r] := by rw [hK0]; exact Chg.app _ _ _
    have h2 : Chg k K26 [r] := h1.trans s26.chg (fun a h => .inl h)
    exact h2.trans hcg (fun a h => .inr (by simp at h; omega))
set_option maxHeartbeats 64000000 in
theorem rletter_call {fs : FuncId → Option SFunc} {ex : FuncId → List AV → M AV} (T : TblR fs ex) {k : H} {r : Nat} {x : Rd} (hr : k[r]? = some x.blk) (hx : x.b.length ≤ 281474976710656) :
    ∃ c k', call fs ex 41 [.ptr r 0 0] k = some (.agg c, k') ∧ IsLO k.length k' c (readW Rd.rlist x).1 ∧ k'[r]? = some (readW Rd.rlist x).2.blk ∧ (readW Rd.rlist x).2.b.length ≤ 281474976710656 ∧ Chg k k' [r] := by
  have hrk : r < k.length := (List.getElem?_eq_some_iff.1 hr).1
  obtain ⟨K0, hK0⟩ : ∃ K, K = k ++ [Blk.row 21 [[AV.int .i64 0, AV.int .i64 0, AV.int .i64 0, AV.int .i64 0, AV.int .i64 0, AV.str [], AV.str [], AV.str [], AV.int .i64 0, AV.int .i64 0, AV.str [], AV.nilslice, AV.bool false, AV.str [], AV.int .i64 0, AV.int .u64 0, AV.int .u64 0, AV.int .i64 0, AV.nilslice, AV.int .i64 0, AV.int .i64 0]] true true] := ⟨_, rfl⟩
  have hlen : K0.length = k.length + 1 := by rw [hK0]; simp
  have hz : K0[k.length]? = some (.row 21 [[.int .i64 0, .int .i64 0, .int .i64 0, .int .i64 0, .int .i64 0, .str [], .str [], .str [], .int .i64 0, .int .i64 0, .str [], .nilslice, .bool false, .str [], .int .i64 0, .int .u64 0, .int .u64 0, .int .i64 0, .nilslice, .int .i64 0, .int .i64 0]] true true) := by rw [hK0]; simp
  have hb : k ++ [Blk.row 21 [[AV.int .i64 0, AV.int .i64 0, AV.int .i64 0, AV.int .i64 0, AV.int .i64 0, AV.str [], AV.str [], AV.str [], AV.int .i64 0, AV.int .i64 0, AV.str [], AV.nilslice, AV.bool false, AV.str [], AV.int .i64 0, AV.int .u64 0, AV.int .u64 0, AV.int .i64 0, AV.nilslice, AV.int .i64 0, AV.int .i64 0]] true true, Blk.row 21 [[AV.int .i64 0, AV.int .i64 0, AV.int .i64 0, AV.int .i64 0, AV.int .i64 0, AV.str [], AV.str [], AV.str [], AV.int .i64 0, AV.int .i64 0, AV.str [], AV.nilslice, AV.bool false, AV.str [], AV.int .i64 0, AV.int .u64 0, AV.int .u64 0, AV.int .i64 0, AV.nilslice, AV.int .i64 0, AV.int .i64 0]] true true] = K0 ++ [Blk.row 21 [[AV.int .i64 0, AV.int .i64 0, AV.int .i64 0, AV.int .i64 0, AV.int .i64 0, AV.str [], AV.str [], AV.str [], AV.int .i64 0, AV.int .i64 0, AV.str [], AV.nilslice, AV.bool false, AV.str [], AV.int .i64 0, AV.int .u64 0, AV.int .u64 0, AV.int .i64 0, AV.nilslice, AV.int .i64 0, AV.int .i64 0]] true true] := by rw [hK0]; simp
  obtain ⟨K, hK⟩ : ∃ K, K = k ++ [Blk.row 21 [[AV.int .i64 0, AV.int .i64 0, AV.int .i64 0, AV.int .i64 0, AV.int .i64 0, AV.str [], AV.str [], AV.str [], AV.int .i64 0, AV.int .i64 0, AV.str [], AV.nilslice, AV.bool false, AV.str [], AV.int .i64 0, AV.int .u64 0, AV.int .u64 0, AV.int .i64 0, AV.nilslice, AV.int .i64 0, AV.int .i64 0]] true true, Blk.row 21 [[AV.int .i64 0, AV.int .i64 0, AV.int .i64 0, AV.int .i64 0, AV.int .i64 0, AV.str [], AV.str [], AV.str [], AV.int .i64 0, AV.int .i64 0, AV.str [], AV.nilslice, AV.bool false, AV.str [], AV.int .i64 0, AV.int .u64 0, AV.int .u64 0, AV.int .i64 0, AV.nilslice, AV.int .i64 0, AV.int .i64 0]] true true] := ⟨_, rfl⟩
  have s0 : St K0 K r (k.length + 1) 21 x [.int .i64 0, .int .i64 0, .int .i64 0, .int .i64 0, .int .i64 0, .str [], .str [], .str [], .int .i64 0, .int .i64 0, .str [], .nilslice, .bool false, .str [], .int .i64 0, .int .u64 0, .int .u64 0, .int .i64 0, .nilslice, .int .i64 0, .int .i64 0] [] := by
    rw [hK, hb]
    exact ⟨by omega, by omega, get_app (by rw [hK0]; exact get_app hr), hx, by rw [← hlen]; simp, Chg.app _ _ _, by simp, List.Pairwise.nil⟩
  obtain ⟨a1, ha1⟩ : ∃ a, a = x.num := ⟨_, rfl⟩
  obtain ⟨K1, e1, s1⟩ := s0.rnum T
  rw [← ha1] at e1 s1
  obtain ⟨a2, ha2⟩ : ∃ a, a = a1.2.num := ⟨_, rfl⟩
  obtain ⟨K2, e2, s2⟩ := s1.rnum T
  rw [← ha2] at e2 s2
  obtain ⟨a3, ha3⟩ : ∃ a, a = a2.2.num := ⟨_, rfl⟩
  obtain ⟨K3, e3, s3⟩ := s2.rnum T
  rw [← ha3] at e3 s3
  obtain ⟨a4, ha4⟩ : ∃ a, a = a3.2.num := ⟨_, rfl⟩
  obtain ⟨K4, e4, s4⟩ := s3.rnum T
  rw [← ha4] at e4 s4
  obtain ⟨a5, ha5⟩ : ∃ a, a = a4.2.num := ⟨_, rfl⟩
  obtain ⟨K5, e5, s5⟩ := s4.rnum T
  rw [← ha5] at e5 s5
  obtain ⟨a6, ha6⟩ : ∃ a, a = a5.2.num := ⟨_, rfl⟩
  obtain ⟨K6, e6, s6⟩ := s5.rnum T
  rw [← ha6] at e6 s6
  obtain ⟨a7, ha7⟩ : ∃ a, a = a6.2.num := ⟨_, rfl⟩
  obtain ⟨K7, e7, s7⟩ := s6.rnum T
  rw [← ha7] at e7 s7
  have q8 := s7.hq
  have s8 := s7.set [.int .i64 (a1.1 : Nat), .int .i64 0, .int .i64 0, .int .i64 0, .int .i64 0, .str [], .str [], .str [], .int .i64 0, .int .i64 0, .str [], .nilslice, .bool false, .str [], .int .i64 0, .int .u64 0, .int .u64 0, .int .i64 0, .nilslice, .int .i64 0, .int .i64 0]
  obtain ⟨K8, hK8⟩ : ∃ K', K' = K7.set (k.length + 1) (Blk.row 21 [[AV.int .i64 (a1.1 : Nat), AV.int .i64 0, AV.int .i64 0, AV.int .i64 0, AV.int .i64 0, AV.str [], AV.str [], AV.str [], AV.int .i64 0, AV.int .i64 0, AV.str [], AV.nilslice, AV.bool false, AV.str [], AV.int .i64 0, AV.int .u64 0, AV.int .u64 0, AV.int .i64 0, AV.nilslice, AV.int .i64 0, AV.int .i64 0]] true true) := ⟨_, rfl⟩
  rw [← hK8] at s8
  have q9 := s8.hq
  have s9 := s8.set [.int .i64 (a1.1 : Nat), .int .i64 (a2.1 : Nat), .int .i64 0, .int .i64 0, .int .i64 0, .str [], .str [], .str [], .int .i64 0, .int .i64 0, .str [], .nilslice, .bool false, .str [], .int .i64 0, .int .u64 0, .int .u64 0, .int .i64 0, .nilslice, .int .i64 0, .int .i64 0]
  obtain ⟨K9, hK9⟩ : ∃ K', K' = K8.set (k.length + 1) (Blk.row 21 [[AV.int .i64 (a1.1 : Nat), AV.int .i64 (a2.1 : Nat), AV.int .i64 0, AV.int .i64 0, AV.int .i64 0, AV.str [], AV.str [], AV.str [], AV.int .i64 0, AV.int .i64 0, AV.str [], AV.nilslice, AV.bool false, AV.str [], AV.int .i64 0, AV.int .u64 0, AV.int .u64 0, AV.int .i64 0, AV.nilslice, AV.int .i64 0, AV.int .i64 0]] true true) := ⟨_, rfl⟩
  rw [← hK9] at s9
  have q10 := s9.hq
  have s10 := s9.set [.int .i64 (a1.1 : Nat), .int .i64 (a2.1 : Nat), .int .i64 (a3.1 : Nat), .int .i64 0, .int .i64 0, .str [], .str [], .str [], .int .i64 0, .int .i64 0, .str [], .nilslice, .bool false, .str [], .int .i64 0, .int .u64 0, .int .u64 0, .int .i64 0, .nilslice, .int .i64 0, .int .i64 0]
  obtain ⟨K10, hK10⟩ : ∃ K', K' = K9.set (k.length + 1) (Blk.row 21 [[AV.int .i64 (a1.1 : Nat), AV.int .i64 (a2.1 : Nat), AV.int .i64 (a3.1 : Nat), AV.int .i64 0, AV.int .i64 0, AV.str [], AV.str [], AV.str [], AV.int .i64 0, AV.int .i64 0, AV.str [], AV.nilslice, AV.bool false, AV.str [], AV.int .i64 0, AV.int .u64 0, AV.int .u64 0, AV.int .i64 0, AV.nilslice, AV.int .i64 0, AV.int .i64 0]] true true) := ⟨_, rfl⟩
  rw [← hK10] at s10
  have q11 := s10.hq
  have s11 := s10.set [.int .i64 (a1.1 : Nat), .int .i64 (a2.1 : Nat), .int .i64 (a3.1 : Nat), .int .i64 (a4.1 : Nat), .int .i64 0, .str [], .str [], .str [], .int .i64 0, .int .i64 0, .str [], .nilslice, .bool false, .str [], .int .i64 0, .int .u64 0, .int .u64 0, .int .i64 0, .nilslice, .int .i64 0, .int .i64 0]
  obtain ⟨K11, hK11⟩ : ∃ K', K' = K10.set (k.length + 1) (Blk.row 21 [[AV.int .i64 (a1.1 : Nat), AV.int .i64 (a2.1 : Nat), AV.int .i64 (a3.1 : Nat), AV.int .i64 (a4.1 : Nat), AV.int .i64 0, AV.str [], AV.str [], AV.str [], AV.int .i64 0, AV.int .i64 0, AV.str [], AV.nilslice, AV.bool false, AV.str [], AV.int .i64 0, AV.int .u64 0, AV.int .u64 0, AV.int .i64 0, AV.nilslice, AV.int .i64 0, AV.int .i64 0]] true true) := ⟨_, rfl⟩
  rw [← hK11] at s11
  have q12 := s11.hq
  have s12 := s11.set [.int .i64 (a1.1 : Nat), .int .i64 (a2.1 : Nat), .int .i64 (a3.1 : Nat), .int .i64 (a4.1 : Nat), .int .i64 0, .str [], .str [], .str [], .int .i64 0, .int .i64 0, .str [], .nilslice, .bool false, .str [], .int .i64 0, .int .u64 0, .int .u64 0, .int .i64 (a5.1 : Nat), .nilslice, .int .i64 0, .int .i64 0]
  obtain ⟨K12, hK12⟩ : ∃ K', K' = K11.set (k.length + 1) (Blk.row 21 [[AV.int .i64 (a1.1 : Nat), AV.int .i64 (a2.1 : Nat), AV.int .i64 (a3.1 : Nat), AV.int .i64 (a4.1 : Nat), AV.int .i64 0, AV.str [], AV.str [], AV.str [], AV.int .i64 0, AV.int .i64 0, AV.str [], AV.nilslice, AV.bool false, AV.str [], AV.int .i64 0, AV.int .u64 0, AV.int .u64 0, AV.int .i64 (a5.1 : Nat), AV.nilslice, AV.int .i64 0, AV.int .i64 0]] true true) := ⟨_, rfl⟩
  rw [← hK12] at s12
  have q13 := s12.hq
  have s13 := s12.set [.int .i64 (a1.1 : Nat), .int .i64 (a2.1 : Nat), .int .i64 (a3.1 : Nat), .int .i64 (a4.1 : Nat), .int .i64 0, .str [], .str [], .str [], .int .i64 0, .int .i64 0, .str [], .nilslice, .bool false, .str [], .int .i64 0, .int .u64 0, .int .u64 0, .int .i64 (a5.1 : Nat), .nilslice, .int .i64 (a6.1 : Nat), .int .i64 0]
  obtain ⟨K13, hK13⟩ : ∃ K', K' = K12.set (k.length + 1) (Blk.row 21 [[AV.int .i64 (a1.1 : Nat), AV.int .i64 (a2.1 : Nat), AV.int .i64 (a3.1 : Nat), AV.int .i64 (a4.1 : Nat), AV.int .i64 0, AV.str [], AV.str [], AV.str [], AV.int .i64 0, AV.int .i64 0, AV.str [], AV.nilslice, AV.bool false, AV.str [], AV.int .i64 0, AV.int .u64 0, AV.int .u64 0, AV.int .i64 (a5.1 : Nat), AV.nilslice, AV.int .i64 (a6.1 : Nat), AV.int .i64 0]] true true) := ⟨_, rfl⟩
  rw [← hK13] at s13
  have q14 := s13.hq
  have s14 := s13.set [.int .i64 (a1.1 : Nat), .int .i64 (a2.1 : Nat), .int .i64 (a3.1 : Nat), .int .i64 (a4.1 : Nat), .int .i64 0, .str [], .str [], .str [], .int .i64 0, .int .i64 0, .str [], .nilslice, .bool false, .str [], .int .i64 0, .int .u64 0, .int .u64 0, .int .i64 (a5.1 : Nat), .nilslice, .int .i64 (a6.1 : Nat), .int .i64 (a7.1 : Nat)]
  obtain ⟨K14, hK14⟩ : ∃ K', K' = K13.set (k.length + 1) (Blk.row 21 [[AV.int .i64 (a1.1 : Nat), AV.int .i64 (a2.1 : Nat), AV.int .i64 (a3.1 : Nat), AV.int .i64 (a4.1 : Nat), AV.int .i64 0, AV.str [], AV.str [], AV.str [], AV.int .i64 0, AV.int .i64 0, AV.str [], AV.nilslice, AV.bool false, AV.str [], AV.int .i64 0, AV.int .u64 0, AV.int .u64 0, AV.int .i64 (a5.1 : Nat), AV.nilslice, AV.int .i64 (a6.1 : Nat), AV.int .i64 (a7.1 : Nat)]] true true) := ⟨_, rfl⟩
  rw [← hK14] at s14
  obtain ⟨a8, ha8⟩ : ∃ a, a = a7.2.wide := ⟨_, rfl⟩
  obtain ⟨K15, e15, s15⟩ := s14.rwide T
  rw [← ha8] at e15 s15
  obtain ⟨a9, ha9⟩ : ∃ a, a = a8.2.wide := ⟨_, rfl⟩
  obtain ⟨K16, e16, s16⟩ := s15.rwide T
  rw [← ha9] at e16 s16
  have q17 := s16.hq
  have s17 := s16.set [.int .i64 (a1.1 : Nat), .int .i64 (a2.1 : Nat), .int .i64 (a3.1 : Nat), .int .i64 (a4.1 : Nat), .int .i64 0, .str [], .str [], .str [], .int .i64 0, .int .i64 0, .str [], .nilslice, .bool false, .str [], .int .i64 0, .int .u64 (a8.1 : Nat), .int .u64 0, .int .i64 (a5.1 : Nat), .nilslice, .int .i64 (a6.1 : Nat), .int .i64 (a7.1 : Nat)]
  obtain ⟨K17, hK17⟩ : ∃ K', K' = K16.set (k.length + 1) (Blk.row 21 [[AV.int .i64 (a1.1 : Nat), AV.int .i64 (a2.1 : Nat), AV.int .i64 (a3.1 : Nat), AV.int .i64 (a4.1 : Nat), AV.int .i64 0, AV.str [], AV.str [], AV.str [], AV.int .i64 0, AV.int .i64 0, AV.str [], AV.nilslice, AV.bool false, AV.str [], AV.int .i64 0, AV.int .u64 (a8.1 : Nat), AV.int .u64 0, AV.int .i64 (a5.1 : Nat), AV.nilslice, AV.int .i64 (a6.1 : Nat), AV.int .i64 (a7.1 : Nat)]] true true) := ⟨_, rfl⟩
  rw [← hK17] at s17
  have q18 := s17.hq
  have s18 := s17.set [.int .i64 (a1.1 : Nat), .int .i64 (a2.1 : Nat), .int .i64 (a3.1 : Nat), .int .i64 (a4.1 : Nat), .int .i64 0, .str [], .str [], .str [], .int .i64 0, .int .i64 0, .str [], .nilslice, .bool false, .str [], .int .i64 0, .int .u64 (a8.1 : Nat), .int .u64 (a9.1 : Nat), .int .i64 (a5.1 : Nat), .nilslice, .int .i64 (a6.1 : Nat), .int .i64 (a7.1 : Nat)]
  obtain ⟨K18, hK18⟩ : ∃ K', K' = K17.set (k.length + 1) (Blk.row 21 [[AV.int .i64 (a1.1 : Nat), AV.int .i64 (a2.1 : Nat), AV.int .i64 (a3.1 : Nat), AV.int .i64 (a4.1 : Nat), AV.int .i64 0, AV.str [], AV.str [], AV.str [], AV.int .i64 0, AV.int .i64 0, AV.str [], AV.nilslice, AV.bool false, AV.str [], AV.int .i64 0, AV.int .u64 (a8.1 : Nat), AV.int .u64 (a9.1 : Nat), AV.int .i64 (a5.1 : Nat), AV.nilslice, AV.int .i64 (a6.1 : Nat), AV.int .i64 (a7.1 : Nat)]] true true) := ⟨_, rfl⟩
  rw [← hK18] at s18
  obtain ⟨a10, ha10⟩ : ∃ a, a = a9.2.rlist := ⟨_, rfl⟩
  obtain ⟨_, e19, va10, K19, rfl, s19⟩ := s18.ritems T
  have hla10 : a10.1.length ≤ 65535 := by rw [ha10]; exact rlist_len _
  rw [← ha10] at s19
  have q20 := s19.hq
  have s20 := s19.set [.int .i64 (a1.1 : Nat), .int .i64 (a2.1 : Nat), .int .i64 (a3.1 : Nat), .int .i64 (a4.1 : Nat), .int .i64 0, .str [], .str [], .str [], .int .i64 0, .int .i64 0, .str [], .nilslice, .bool false, .str [], .int .i64 0, .int .u64 (a8.1 : Nat), .int .u64 (a9.1 : Nat), .int .i64 (a5.1 : Nat), va10, .int .i64 (a6.1 : Nat), .int .i64 (a7.1 : Nat)]
  obtain ⟨K20, hK20⟩ : ∃ K', K' = K19.set (k.length + 1) (Blk.row 21 [[AV.int .i64 (a1.1 : Nat), AV.int .i64 (a2.1 : Nat), AV.int .i64 (a3.1 : Nat), AV.int .i64 (a4.1 : Nat), AV.int .i64 0, AV.str [], AV.str [], AV.str [], AV.int .i64 0, AV.int .i64 0, AV.str [], AV.nilslice, AV.bool false, AV.str [], AV.int .i64 0, AV.int .u64 (a8.1 : Nat), AV.int .u64 (a9.1 : Nat), AV.int .i64 (a5.1 : Nat), va10, AV.int .i64 (a6.1 : Nat), AV.int .i64 (a7.1 : Nat)]] true true) := ⟨_, rfl⟩
  rw [← hK20] at s20
  obtain ⟨a11, ha11⟩ : ∃ a, a = a10.2.num := ⟨_, rfl⟩
  obtain ⟨K21, e21, s21⟩ := s20.rnum T
  rw [← ha11] at e21 s21
  obtain ⟨a12, ha12⟩ : ∃ a, a = a11.2.text := ⟨_, rfl⟩
  obtain ⟨K22, e22, s22⟩ := s21.rtext T
  rw [← ha12] at e22 s22
  obtain ⟨a13, ha13⟩ : ∃ a, a = a12.2.text := ⟨_, rfl⟩
  obtain ⟨K23, e23, s23⟩ := s22.rtext T
  rw [← ha13] at e23 s23
  obtain ⟨a14, ha14⟩ : ∃ a, a = a13.2.text := ⟨_, rfl⟩
  obtain ⟨K24, e24, s24⟩ := s23.rtext T
  rw [← ha14] at e24 s24
  obtain ⟨a15, ha15⟩ : ∃ a, a = a14.2.num := ⟨_, rfl⟩
  obtain ⟨K25, e25, s25⟩ := s24.rnum T
  rw [← ha15] at e25 s25
  have q26 := s25.hq
  have s26 := s25.set [.int .i64 (a1.1 : Nat), .int .i64 (a2.1 : Nat), .int .i64 (a3.1 : Nat), .int .i64 (a4.1 : Nat), .int .i64 (a11.1 : Nat), .str [], .str [], .str [], .int .i64 0, .int .i64 0, .str [], .nilslice, .bool false, .str [], .int .i64 0, .int .u64 (a8.1 : Nat), .int .u64 (a9.1 : Nat), .int .i64 (a5.1 : Nat), va10, .int .i64 (a6.1 : Nat), .int .i64 (a7.1 : Nat)]
  obtain ⟨K26, hK26⟩ : ∃ K', K' = K25.set (k.length + 1) (Blk.row 21 [[AV.int .i64 (a1.1 : Nat), AV.int .i64 (a2.1 : Nat), AV.int .i64 (a3.1 : Nat), AV.int .i64 (a4.1 : Nat), AV.int .i64 (a11.1 : Nat), AV.str [], AV.str [], AV.str [], AV.int .i64 0, AV.int .i64 0, AV.str [], AV.nilslice, AV.bool false, AV.str [], AV.int .i64 0, AV.int .u64 (a8.1 : Nat), AV.int .u64 (a9.1 : Nat), AV.int .i64 (a5.1 : Nat), va10, AV.int .i64 (a6.1 : Nat), AV.int .i64 (a7.1 : Nat)]] true true) := ⟨_, rfl⟩
  rw [← hK26] at s26
  have q27 := s26.hq
  have s27 := s26.set [.int .i64 (a1.1 : Nat), .int .i64 (a2.1 : Nat), .int .i64 (a3.1 : Nat), .int .i64 (a4.1 : Nat), .int .i64 (a11.1 : Nat), .str a12.1, .str [], .str [], .int .i64 0, .int .i64 0, .str [], .nilslice, .bool false, .str [], .int .i64 0, .int .u64 (a8.1 : Nat), .int .u64 (a9.1 : Nat), .int .i64 (a5.1 : Nat), va10, .int .i64 (a6.1 : Nat), .int .i64 (a7.1 : Nat)]
  obtain ⟨K27, hK27⟩ : ∃ K', K' = K26.set (k.length + 1) (Blk.row 21 [[AV.int .i64 (a1.1 : Nat), AV.int .i64 (a2.1 : Nat), AV.int .i64 (a3.1 : Nat), AV.int .i64 (a4.1 : Nat), AV.int .i64 (a11.1 : Nat), AV.str a12.1, AV.str [], AV.str [], AV.int .i64 0, AV.int .i64 0, AV.str [], AV.nilslice, AV.bool false, AV.str [], AV.int .i64 0, AV.int .u64 (a8.1 : Nat), AV.int .u64 (a9.1 : Nat), AV.int .i64 (a5.1 : Nat), va10, AV.int .i64 (a6.1 : Nat), AV.int .i64 (a7.1 : Nat)]] true true) := ⟨_, rfl⟩
  rw [← hK27] at s27
  have q28 := s27.hq
  have s28 := s27.set [.int .i64 (a1.1 : Nat), .int .i64 (a2.1 : Nat), .int .i64 (a3.1 : Nat), .int .i64 (a4.1 : Nat), .int .i64 (a11.1 : Nat), .str a12.1, .str a13.1, .str [], .int .i64 0, .int .i64 0, .str [], .nilslice, .bool false, .str [], .int .i64 0, .int .u64 (a8.1 : Nat), .int .u64 (a9.1 : Nat), .int .i64 (a5.1 : Nat), va10, .int .i64 (a6.1 : Nat), .int .i64 (a7.1 : Nat)]
  obtain ⟨K28, hK28⟩ : ∃ K', K' = K27.set (k.length + 1) (Blk.row 21 [[AV.int .i64 (a1.1 : Nat), AV.int .i64 (a2.1 : Nat), AV.int .i64 (a3.1 : Nat), AV.int .i64 (a4.1 : Nat), AV.int .i64 (a11.1 : Nat), AV.str a12.1, AV.str a13.1, AV.str [], AV.int .i64 0, AV.int .i64 0, AV.str [], AV.nilslice, AV.bool false, AV.str [], AV.int .i64 0, AV.int .u64 (a8.1 : Nat), AV.int .u64 (a9.1 : Nat), AV.int .i64 (a5.1 : Nat), va10, AV.int .i64 (a6.1 : Nat), AV.int .i64 (a7.1 : Nat)]] true true) := ⟨_, rfl⟩
  rw [← hK28] at s28
  have q29 := s28.hq
  have s29 := s28.set [.int .i64 (a1.1 : Nat), .int .i64 (a2.1 : Nat), .int .i64 (a3.1 : Nat), .int .i64 (a4.1 : Nat), .int .i64 (a11.1 : Nat), .str a12.1, .str a13.1, .str a14.1, .int .i64 0, .int .i64 0, .str [], .nilslice, .bool false, .str [], .int .i64 0, .int .u64 (a8.1 : Nat), .int .u64 (a9.1 : Nat), .int .i64 (a5.1 : Nat), va10, .int .i64 (a6.1 : Nat), .int .i64 (a7.1 : Nat)]
  obtain ⟨K29, hK29⟩ : ∃ K', K' = K28.set (k.length + 1) (Blk.row 21 [[AV.int .i64 (a1.1 : Nat), AV.int .i64 (a2.1 : Nat), AV.int .i64 (a3.1 : Nat), AV.int .i64 (a4.1 : Nat), AV.int .i64 (a11.1 : Nat), AV.str a12.1, AV.str a13.1, AV.str a14.1, AV.int .i64 0, AV.int .i64 0, AV.str [], AV.nilslice, AV.bool false, AV.str [], AV.int .i64 0, AV.int .u64 (a8.1 : Nat), AV.int .u64 (a9.1 : Nat), AV.int .i64 (a5.1 : Nat), va10, AV.int .i64 (a6.1 : Nat), AV.int .i64 (a7.1 : Nat)]] true true) := ⟨_, rfl⟩
  rw [← hK29] at s29
  have q30 := s29.hq
  have s30 := s29.set [.int .i64 (a1.1 : Nat), .int .i64 (a2.1 : Nat), .int .i64 (a3.1 : Nat), .int .i64 (a4.1 : Nat), .int .i64 (a11.1 : Nat), .str a12.1, .str a13.1, .str a14.1, .int .i64 (a15.1 : Nat), .int .i64 0, .str [], .nilslice, .bool false, .str [], .int .i64 0, .int .u64 (a8.1 : Nat), .int .u64 (a9.1 : Nat), .int .i64 (a5.1 : Nat), va10, .int .i64 (a6.1 : Nat), .int .i64 (a7.1 : Nat)]
  obtain ⟨K30, hK30⟩ : ∃ K', K' = K29.set (k.length + 1) (Blk.row 21 [[AV.int .i64 (a1.1 : Nat), AV.int .i64 (a2.1 : Nat), AV.int .i64 (a3.1 : Nat), AV.int .i64 (a4.1 : Nat), AV.int .i64 (a11.1 : Nat), AV.str a12.1, AV.str a13.1, AV.str a14.1, AV.int .i64 (a15.1 : Nat), AV.int .i64 0, AV.str [], AV.nilslice, AV.bool false, AV.str [], AV.int .i64 0, AV.int .u64 (a8.1 : Nat), AV.int .u64 (a9.1 : Nat), AV.int .i64 (a5.1 : Nat), va10, AV.int .i64 (a6.1 : Nat), AV.int .i64 (a7.1 : Nat)]] true true) := ⟨_, rfl⟩
  rw [← hK30] at s30
  obtain ⟨a16, ha16⟩ : ∃ a, a = a15.2.num := ⟨_, rfl⟩
  obtain ⟨K31, e31, s31⟩ := s30.rnum T
  rw [← ha16] at e31 s31
  obtain ⟨a17, ha17⟩ : ∃ a, a = a16.2.text := ⟨_, rfl⟩
  obtain ⟨K32, e32, s32⟩ := s31.rtext T
  rw [← ha17] at e32 s32
  have q33 := s32.hq
  have s33 := s32.set [.int .i64 (a1.1 : Nat), .int .i64 (a2.1 : Nat), .int .i64 (a3.1 : Nat), .int .i64 (a4.1 : Nat), .int .i64 (a11.1 : Nat), .str a12.1, .str a13.1, .str a14.1, .int .i64 (a15.1 : Nat), .int .i64 (a16.1 : Nat), .str [], .nilslice, .bool false, .str [], .int .i64 0, .int .u64 (a8.1 : Nat), .int .u64 (a9.1 : Nat), .int .i64 (a5.1 : Nat), va10, .int .i64 (a6.1 : Nat), .int .i64 (a7.1 : Nat)]
  obtain ⟨K33, hK33⟩ : ∃ K', K' = K32.set (k.length + 1) (Blk.row 21 [[AV.int .i64 (a1.1 : Nat), AV.int .i64 (a2.1 : Nat), AV.int .i64 (a3.1 : Nat), AV.int .i64 (a4.1 : Nat), AV.int .i64 (a11.1 : Nat), AV.str a12.1, AV.str a13.1, AV.str a14.1, AV.int .i64 (a15.1 : Nat), AV.int .i64 (a16.1 : Nat), AV.str [], AV.nilslice, AV.bool false, AV.str [], AV.int .i64 0, AV.int .u64 (a8.1 : Nat), AV.int .u64 (a9.1 : Nat), AV.int .i64 (a5.1 : Nat), va10, AV.int .i64 (a6.1 : Nat), AV.int .i64 (a7.1 : Nat)]] true true) := ⟨_, rfl⟩
  rw [← hK33] at s33
  have q34 := s33.hq
  have s34 := s33.set [.int .i64 (a1.1 : Nat), .int .i64 (a2.1 : Nat), .int .i64 (a3.1 : Nat), .int .i64 (a4.1 : Nat), .int .i64 (a11.1 : Nat), .str a12.1, .str a13.1, .str a14.1, .int .i64 (a15.1 : Nat), .int .i64 (a16.1 : Nat), .str a17.1, .nilslice, .bool false, .str [], .int .i64 0, .int .u64 (a8.1 : Nat), .int .u64 (a9.1 : Nat), .int .i64 (a5.1 : Nat), va10, .int .i64 (a6.1 : Nat), .int .i64 (a7.1 : Nat)]
  obtain ⟨K34, hK34⟩ : ∃ K', K' = K33.set (k.length + 1) (Blk.row 21 [[AV.int .i64 (a1.1 : Nat), AV.int .i64 (a2.1 : Nat), AV.int .i64 (a3.1 : Nat), AV.int .i64 (a4.1 : Nat), AV.int .i64 (a11.1 : Nat), AV.str a12.1, AV.str a13.1, AV.str a14.1, AV.int .i64 (a15.1 : Nat), AV.int .i64 (a16.1 : Nat), AV.str a17.1, AV.nilslice, AV.bool false, AV.str [], AV.int .i64 0, AV.int .u64 (a8.1 : Nat), AV.int .u64 (a9.1 : Nat), AV.int .i64 (a5.1 : Nat), va10, AV.int .i64 (a6.1 : Nat), AV.int .i64 (a7.1 : Nat)]] true true) := ⟨_, rfl⟩
  rw [← hK34] at s34
  obtain ⟨a18, ha18⟩ : ∃ a, a = a17.2.rlist := ⟨_, rfl⟩
  obtain ⟨_, e35, va18, K35, rfl, s35⟩ := s34.ritems T
  have hla18 : a18.1.length ≤ 65535 := by rw [ha18]; exact rlist_len _
  rw [← ha18] at s35
  have q36 := s35.hq
  have s36 := s35.set [.int .i64 (a1.1 : Nat), .int .i64 (a2.1 : Nat), .int .i64 (a3.1 : Nat), .int .i64 (a4.1 : Nat), .int .i64 (a11.1 : Nat), .str a12.1, .str a13.1, .str a14.1, .int .i64 (a15.1 : Nat), .int .i64 (a16.1 : Nat), .str a17.1, va18, .bool false, .str [], .int .i64 0, .int .u64 (a8.1 : Nat), .int .u64 (a9.1 : Nat), .int .i64 (a5.1 : Nat), va10, .int .i64 (a6.1 : Nat), .int .i64 (a7.1 : Nat)]
  obtain ⟨K36, hK36⟩ : ∃ K', K' = K35.set (k.length + 1) (Blk.row 21 [[AV.int .i64 (a1.1 : Nat), AV.int .i64 (a2.1 : Nat), AV.int .i64 (a3.1 : Nat), AV.int .i64 (a4.1 : Nat), AV.int .i64 (a11.1 : Nat), AV.str a12.1, AV.str a13.1, AV.str a14.1, AV.int .i64 (a15.1 : Nat), AV.int .i64 (a16.1 : Nat), AV.str a17.1, va18, AV.bool false, AV.str [], AV.int .i64 0, AV.int .u64 (a8.1 : Nat), AV.int .u64 (a9.1 : Nat), AV.int .i64 (a5.1 : Nat), va10, AV.int .i64 (a6.1 : Nat), AV.int .i64 (a7.1 : Nat)]] true true) := ⟨_, rfl⟩
  rw [← hK36] at s36
  obtain ⟨a19, ha19⟩ : ∃ a, a = a18.2.num := ⟨_, rfl⟩
  obtain ⟨K37, e37, s37⟩ := s36.rnum T
  rw [← ha19] at e37 s37
  obtain ⟨a20, ha20⟩ : ∃ a, a = a19.2.text := ⟨_, rfl⟩
  obtain ⟨K38, e38, s38⟩ := s37.rtext T
  rw [← ha20] at e38 s38
  obtain ⟨a21, ha21⟩ : ∃ a, a = a20.2.num := ⟨_, rfl⟩
  obtain ⟨K39, e39, s39⟩ := s38.rnum T
  rw [← ha21] at e39 s39
  obtain ⟨bm, hbm⟩ : ∃ b, b = (a19.1 == 1) := ⟨_, rfl⟩
  have hbi : (((a19.1 : Nat) : Int) == 1) = bm := by
    rw [hbm]
    by_cases h : a19.1 = 1
    · rw [h]; rfl
    · have h1 : (((a19.1 : Nat) : Int) == 1) = false := by simp; omega
      have h2 : (a19.1 == 1) = false := by simpa using h
      rw [h1, h2]
  have q40 := s39.hq
  have s40 := s39.set [.int .i64 (a1.1 : Nat), .int .i64 (a2.1 : Nat), .int .i64 (a3.1 : Nat), .int .i64 (a4.1 : Nat), .int .i64 (a11.1 : Nat), .str a12.1, .str a13.1, .str a14.1, .int .i64 (a15.1 : Nat), .int .i64 (a16.1 : Nat), .str a17.1, va18, .bool bm, .str [], .int .i64 0, .int .u64 (a8.1 : Nat), .int .u64 (a9.1 : Nat), .int .i64 (a5.1 : Nat), va10, .int .i64 (a6.1 : Nat), .int .i64 (a7.1 : Nat)]
  obtain ⟨K40, hK40⟩ : ∃ K', K' = K39.set (k.length + 1) (Blk.row 21 [[AV.int .i64 (a1.1 : Nat), AV.int .i64 (a2.1 : Nat), AV.int .i64 (a3.1 : Nat), AV.int .i64 (a4.1 : Nat), AV.int .i64 (a11.1 : Nat), AV.str a12.1, AV.str a13.1, AV.str a14.1, AV.int .i64 (a15.1 : Nat), AV.int .i64 (a16.1 : Nat), AV.str a17.1, va18, AV.bool bm, AV.str [], AV.int .i64 0, AV.int .u64 (a8.1 : Nat), AV.int .u64 (a9.1 : Nat), AV.int .i64 (a5.1 : Nat), va10, AV.int .i64 (a6.1 : Nat), AV.int .i64 (a7.1 : Nat)]] true true) := ⟨_, rfl⟩
  rw [← hK40] at s40
  have q41 := s40.hq
  have s41 := s40.set [.int .i64 (a1.1 : Nat), .int .i64 (a2.1 : Nat), .int .i64 (a3.1 : Nat), .int .i64 (a4.1 : Nat), .int .i64 (a11.1 : Nat), .str a12.1, .str a13.1, .str a14.1, .int .i64 (a15.1 : Nat), .int .i64 (a16.1 : Nat), .str a17.1, va18, .bool bm, .str a20.1, .int .i64 0, .int .u64 (a8.1 : Nat), .int .u64 (a9.1 : Nat), .int .i64 (a5.1 : Nat), va10, .int .i64 (a6.1 : Nat), .int .i64 (a7.1 : Nat)]
  obtain ⟨K41, hK41⟩ : ∃ K', K' = K40.set (k.length + 1) (Blk.row 21 [[AV.int .i64 (a1.1 : Nat), AV.int .i64 (a2.1 : Nat), AV.int .i64 (a3.1 : Nat), AV.int .i64 (a4.1 : Nat), AV.int .i64 (a11.1 : Nat), AV.str a12.1, AV.str a13.1, AV.str a14.1, AV.int .i64 (a15.1 : Nat), AV.int .i64 (a16.1 : Nat), AV.str a17.1, va18, AV.bool bm, AV.str a20.1, AV.int .i64 0, AV.int .u64 (a8.1 : Nat), AV.int .u64 (a9.1 : Nat), AV.int .i64 (a5.1 : Nat), va10, AV.int .i64 (a6.1 : Nat), AV.int .i64 (a7.1 : Nat)]] true true) := ⟨_, rfl⟩
  rw [← hK41] at s41
  have q42 := s41.hq
  have s42 := s41.set [.int .i64 (a1.1 : Nat), .int .i64 (a2.1 : Nat), .int .i64 (a3.1 : Nat), .int .i64 (a4.1 : Nat), .int .i64 (a11.1 : Nat), .str a12.1, .str a13.1, .str a14.1, .int .i64 (a15.1 : Nat), .int .i64 (a16.1 : Nat), .str a17.1, va18, .bool bm, .str a20.1, .int .i64 (a21.1 : Nat), .int .u64 (a8.1 : Nat), .int .u64 (a9.1 : Nat), .int .i64 (a5.1 : Nat), va10, .int .i64 (a6.1 : Nat), .int .i64 (a7.1 : Nat)]
  obtain ⟨K42, hK42⟩ : ∃ K', K' = K41.set (k.length + 1) (Blk.row 21 [[AV.int .i64 (a1.1 : Nat), AV.int .i64 (a2.1 : Nat), AV.int .i64 (a3.1 : Nat), AV.int .i64 (a4.1 : Nat), AV.int .i64 (a11.1 : Nat), AV.str a12.1, AV.str a13.1, AV.str a14.1, AV.int .i64 (a15.1 : Nat), AV.int .i64 (a16.1 : Nat), AV.str a17.1, va18, AV.bool bm, AV.str a20.1, AV.int .i64 (a21.1 : Nat), AV.int .u64 (a8.1 : Nat), AV.int .u64 (a9.1 : Nat), AV.int .i64 (a5.1 : Nat), va10, AV.int .i64 (a6.1 : Nat), AV.int .i64 (a7.1 : Nat)]] true true) := ⟨_, rfl⟩
  rw [← hK42] at s42
  have qz := s42.hq
  have qp : K42[k.length]? = some (.row 21 [[.int .i64 0, .int .i64 0, .int .i64 0, .int .i64 0, .int .i64 0, .str [], .str [], .str [], .int .i64 0, .int .i64 0, .str [], .nilslice, .bool false, .str [], .int .i64 0, .int .u64 0, .int .u64 0, .int .i64 0, .nilslice, .int .i64 0, .int .i64 0]] true true) := s42.chg.2 _ _ (by simp; omega) hz
  have c1 := (s42.own (va18, a18.1) (by simp)).1.rds.cells
  have c2 := (s42.own (va10, a10.1) (by simp)).1.rds.cells
  refine ⟨[.int .i64 (a1.1 : Nat), .int .i64 (a2.1 : Nat), .int .i64 (a3.1 : Nat), .int .i64 (a4.1 : Nat), .int .i64 (a11.1 : Nat), .str a12.1, .str a13.1, .str a14.1, .int .i64 (a15.1 : Nat), .int .i64 (a16.1 : Nat), .str a17.1, va18, .bool bm, .str a20.1, .int .i64 (a21.1 : Nat), .int .u64 (a8.1 : Nat), .int .u64 (a9.1 : Nat), .int .i64 (a5.1 : Nat), va10, .int .i64 (a6.1 : Nat), .int .i64 (a7.1 : Nat)], K42.set k.length (.row 21 [[.int .i64 (a1.1 : Nat), .int .i64 (a2.1 : Nat), .int .i64 (a3.1 : Nat), .int .i64 (a4.1 : Nat), .int .i64 (a11.1 : Nat), .str a12.1, .str a13.1, .str a14.1, .int .i64 (a15.1 : Nat), .int .i64 (a16.1 : Nat), .str a17.1, va18, .bool bm, .str a20.1, .int .i64 (a21.1 : Nat), .int .u64 (a8.1 : Nat), .int .u64 (a9.1 : Nat), .int .i64 (a5.1 : Nat), va10, .int .i64 (a6.1 : Nat), .int .i64 (a7.1 : Nat)]] true true), ?_, ?_⟩
  · rw [call_eq fs ex (f := 41) (sf := sf41) T.rletter]
    simp [sf41, evB, recheck, wantsOp, AV.same, sames, eqCells, eqLeaf, toL_some, asc, fzero, fnone, List.map_cons, List.map_nil, resVals, resVal, resOf, partV, fillA, putCells, fillEls, strBin, minV, optNat, appendEls, elsOf, sliceSlV, sliceStrV, List.replicate, List.getElem?_append_left, List.getElem?_append_right, List.set_append_left, List.set_append_right, List.getElem?_set_self, List.getElem?_set_ne, ← hK, e1, e2, e3, e4, e5, e6, e7, q8, get_app q8, set_app q8, get_set_same q8, get_set_app q8, set_set_app q8, len_beq q8, beq_len q8, ← hK8, q9, get_app q9, set_app q9, get_set_same q9, get_set_app q9, set_set_app q9, len_beq q9, beq_len q9, ← hK9, q10, get_app q10, set_app q10, get_set_same q10, get_set_app q10, set_set_app q10, len_beq q10, beq_len q10, ← hK10, q11, get_app q11, set_app q11, get_set_same q11, get_set_app q11, set_set_app q11, len_beq q11, beq_len q11, ← hK11, q12, get_app q12, set_app q12, get_set_same q12, get_set_app q12, set_set_app q12, len_beq q12, beq_len q12, ← hK12, q13, get_app q13, set_app q13, get_set_same q13, get_set_app q13, set_set_app q13, len_beq q13, beq_len q13, ← hK13, q14, get_app q14, set_app q14, get_set_same q14, get_set_app q14, set_set_app q14, len_beq q14, beq_len q14, ← hK14, e15, e16, q17, get_app q17, set_app q17, get_set_same q17, get_set_app q17, set_set_app q17, len_beq q17, beq_len q17, ← hK17, q18, get_app q18, set_app q18, get_set_same q18, get_set_app q18, set_set_app q18, len_beq q18, beq_len q18, ← hK18, e19, q20, get_app q20, set_app q20, get_set_same q20, get_set_app q20, set_set_app q20, len_beq q20, beq_len q20, ← hK20, e21, e22, e23, e24, e25, q26, get_app q26, set_app q26, get_set_same q26, get_set_app q26, set_set_app q26, len_beq q26, beq_len q26, ← hK26, q27, get_app q27, set_app q27, get_set_same q27, get_set_app q27, set_set_app q27, len_beq q27, beq_len q27, ← hK27, q28, get_app q28, set_app q28, get_set_same q28, get_set_app q28, set_set_app q28, len_beq q28, beq_len q28, ← hK28, q29, get_app q29, set_app q29, get_set_same q29, get_set_app q29, set_set_app q29, len_beq q29, beq_len q29, ← hK29, q30, get_app q30, set_app q30, get_set_same q30, get_set_app q30, set_set_app q30, len_beq q30, beq_len q30, ← hK30, e31, e32, q33, get_app q33, set_app q33, get_set_same q33, get_set_app q33, set_set_app q33, len_beq q33, beq_len q33, ← hK33, q34, get_app q34, set_app q34, get_set_same q34, get_set_app q34, set_set_app q34, len_beq q34, beq_len q34, ← hK34, e35, q36, get_app q36, set_app q36, get_set_same q36, get_set_app q36, set_set_app q36, len_beq q36, beq_len q36, ← hK36, e37, e38, e39, hbi, q40, get_app q40, set_app q40, get_set_same q40, get_set_app q40, set_set_app q40, len_beq q40, beq_len q40, ← hK40, q41, get_app q41, set_app q41, get_set_same q41, get_set_app q41, set_set_app q41, len_beq q41, beq_len q41, ← hK41, q42, get_app q42, set_app q42, get_set_same q42, get_set_app q42, set_set_app q42, len_beq q42, beq_len q42, ← hK42, qz, get_app qz, set_app qz, get_set_same qz, get_set_app qz, set_set_app qz, len_beq qz, beq_len qz, qp, get_app qp, set_app qp, get_set_same qp, get_set_app qp, set_set_app qp, len_beq qp, beq_len qp, c1.1, c1.2.1, c1.2.2, c2.1, c2.2.1, c2.2.2]
  have hW : readW Rd.rlist x = (⟨(a1.1 : Nat), (a2.1 : Nat), (a3.1 : Nat), (a4.1 : Nat), (a11.1 : Nat), a12.1, a13.1, a14.1, (a15.1 : Nat), (a16.1 : Nat), a17.1, a18.1, bm, a20.1, (a21.1 : Nat), (a8.1 : Nat), (a9.1 : Nat), (a5.1 : Nat), a10.1, (a6.1 : Nat), (a7.1 : Nat)⟩, a21.2) := by
    rw [hbm, ha21, ha20, ha19, ha18, ha17, ha16, ha15, ha14, ha13, ha12, ha11, ha10, ha9, ha8, ha7, ha6, ha5, ha4, ha3, ha2, ha1]; rfl
  rw [hW]
  have hs := s42.apart
  have hcg : Chg K42 (K42.set k.length (.row 21 [[.int .i64 (a1.1 : Nat), .int .i64 (a2.1 : Nat), .int .i64 (a3.1 : Nat), .int .i64 (a4.1 : Nat), .int .i64 (a11.1 : Nat), .str a12.1, .str a13.1, .str a14.1, .int .i64 (a15.1 : Nat), .int .i64 (a16.1 : Nat), .str a17.1, va18, .bool bm, .str a20.1, .int .i64 (a21.1 : Nat), .int .u64 (a8.1 : Nat), .int .u64 (a9.1 : Nat), .int .i64 (a5.1 : Nat), va10, .int .i64 (a6.1 : Nat), .int .i64 (a7.1 : Nat)]] true true)) [k.length] := (Chg.refl _ _).set (.inl (by simp))
  obtain ⟨o1, f1⟩ := s42.own (va18, a18.1) (by simp)
  obtain ⟨o2, f2⟩ := s42.own (va10, a10.1) (by simp)
  refine ⟨⟨va18, va10, rfl, o1.keep hcg (fun a ha => ?_), o2.keep hcg (fun a ha => ?_), fun a ha => ?_, fun a ha => ?_, fun a ha => ?_, hla18, hla10⟩, hcg.2 _ _ (by simp; omega) s42.hr, s42.hx, ?_⟩
  · have := (f1 a ha).2; simp; omega
  · have := (f2 a ha).2; simp; omega
  · have := (f1 a ha).2; omega
  · have := (f2 a ha).2; omega
  · exact (List.pairwise_cons.1 hs).1 (va10, a10.1) (by simp) a ha
  · have h1 : Chg k K0 [r] := by rw [hK0]; exact Chg.app _ _ _
    have h2 : Chg k K42 [r] := h1.trans s42.chg (fun a h => .inl h)
    exact h2.trans hcg (fun a h => .inr (by simp at h; omega))
end Go.Proofs.YtgnenipkebelfaaGreatDoor.Lt
