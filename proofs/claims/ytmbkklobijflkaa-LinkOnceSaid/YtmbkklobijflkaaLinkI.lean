/- Link: two ends that send to each other, in plain Lean; turning numbers round. -/
import Derived.Test.YtmbkklobijflkaaLinkH
set_option maxRecDepth 100000
set_option linter.unusedVariables false
set_option linter.unusedSimpArgs false
namespace Go.Proofs.Ytmbkklobijflkaa.Lk
open Go Go.Eng F

theorem later_sub (c : Int) (W : List Sn) : ∀ w ∈ later c W, w ∈ W := fun w hw => (List.mem_filter.1 hw).1
/-- Two ends: A sends the letters x, n so far; B the letters y, m so far; ca of y, cb of x have come; A knows of qa, B of qb. -/
structure Bo (x y : Nat → Lt) (ma mb : Int) (n m : Nat) (A B : Ls) (R L : List Lt) (ca cb qa qb : Nat) : Prop where
  me : A.me = ma
  peer : A.peer = mb
  out : A.out = n
  came : A.came = ca
  kept : Recv y m ca A.kept
  waits : Waits x n qa A.waits
  q : qa ≤ cb
  me' : B.me = mb
  peer' : B.peer = ma
  out' : B.out = m
  came' : B.came = cb
  kept' : Recv x n cb B.kept
  waits' : Waits y m qb B.waits
  q' : qb ≤ ca
  told : R = seg x 0 cb
  told' : L = seg y 0 ca
section
variable {x y : Nat → Lt} {ma mb : Int} {n m : Nat} {A B : Ls} {R L : List Lt} {ca cb qa qb : Nat}
theorem Bo.symm (b : Bo x y ma mb n m A B R L ca cb qa qb) : Bo y x mb ma m n B A L R cb ca qb qa :=
  ⟨b.me', b.peer', b.out', b.came', b.kept', b.waits', b.q', b.me, b.peer, b.out, b.came, b.kept, b.waits, b.q, b.told', b.told⟩
theorem Bo.fresh (x y : Nat → Lt) (ma mb : Int) : Bo x y ma mb 0 0 (Ls.fresh ma mb) (Ls.fresh mb ma) [] [] 0 0 0 0 :=
  ⟨rfl, rfl, rfl, rfl, ⟨by simp, by simp [Ls.fresh], by simp [Ls.fresh]⟩, ⟨by simp, rfl⟩, by simp, rfl, rfl, rfl, rfl, ⟨by simp, by simp [Ls.fresh], by simp [Ls.fresh]⟩, ⟨by simp, rfl⟩, by simp, rfl, rfl⟩
theorem Bo.sizes (b : Bo x y ma mb n m A B R L ca cb qa qb) (hn : n ≤ 1000) (hm : m ≤ 1000) : A.waits.length ≤ 1000 ∧ A.kept.length ≤ 1000 ∧ (0 ≤ A.came ∧ A.came ≤ 1000) := by
  have h1 := b.waits.len
  have h2 := b.kept.len
  have h3 := b.kept.cn
  have h4 := b.came
  exact ⟨by omega, by omega, by omega, by omega⟩
/-- One more letter is sent. -/
theorem Bo.send (b : Bo x y ma mb n m A B R L ca cb qa qb) (hn : n ≤ 1000) : Bo x y ma mb (n + 1) m (A.send (x (n + 1))) B R L ca cb qa qb ∧ IntKind.i64.wrap (A.out + 1) = (n : Int) + 1 := by
  have hw : IntKind.i64.wrap (A.out + 1) = (n : Int) + 1 := by rw [b.out]; exact wrap_i64 (by omega) (by omega)
  refine ⟨⟨b.me, b.peer, ?_, b.came, b.kept, ?_, b.q, b.me', b.peer', b.out', b.came', b.kept'.more (by omega), b.waits', b.q', b.told, b.told'⟩, hw⟩
  · simp only [Ls.send, hw]; omega
  · simp only [Ls.send, hw]; exact b.waits.snoc A.now
/-- A letter comes to B; A hears of it. -/
theorem Bo.up (b : Bo x y ma mb n m A B R L ca cb qa qb) (hn : n ≤ 64) {k a0 : Nat} (h1 : 1 ≤ k) (h2 : k ≤ n) (h3 : a0 ≤ ca) :
    ∃ (A' B' : Ls) (cb' : Nat) (o : List Lt) (ack : Pk), B.got ⟨ma, mb, (k : Int), (a0 : Int), x k⟩ = (B', o, ack, true) ∧ A.got ack = (A', [], Pk.zero, true) ∧ ack.seq = 0 ∧
      Bo x y ma mb n m A' B' (R ++ o) L ca cb' (max qa cb') (max qb a0) ∧ cb ≤ cb' ∧ (k ≤ cb + 1 → k ≤ cb') ∧ A'.now = A.now ∧ B'.now = B.now ∧ (∀ w ∈ A'.waits, w ∈ A.waits) ∧ (∀ w ∈ B'.waits, w ∈ B.waits) ∧ o.length ≤ n := by
  have hca := b.kept.cn
  have hmay : B.may ⟨ma, mb, (k : Int), (a0 : Int), x k⟩ = true := by
    simp [Ls.may, b.peer', b.me', b.out']; omega
  obtain ⟨cb', K', e, h4, h5, h6⟩ := recv_got b.came' b.kept' hn hmay rfl rfl h1 h2
  have h7 := h5.cn
  have hmay' : A.may ⟨B.me, B.peer, 0, (cb' : Int), Lt.zero⟩ = true := by
    simp [Ls.may, b.peer, b.me, b.out, b.me', b.peer']; omega
  refine ⟨_, _, cb', _, _, e, got_ack hmay' rfl, rfl, ⟨b.me, b.peer, b.out, b.came, b.kept, b.waits.later h7, by have := b.q; omega, b.me', b.peer', b.out', rfl, h5, b.waits'.later (by omega), by have := b.q'; omega, ?_, b.told'⟩, h4, h6, rfl, rfl, later_sub _ _, later_sub _ _, by rw [seg_len]; omega⟩
  rw [b.told, seg_app (by omega) h4]
end
/-- The place of a number that is turned round. -/
theorem turn (a : Int) (s n : Nat) (h0 : 0 < n) (hn : n ≤ 1000000000) : ∃ (y r r2 : Int) (j : Nat), binV .shr (.int .i64 a) (.int .u64 (s : Int)) = some (.int .i64 y) ∧ binV .rem (.int .i64 y) (.int .i64 (n : Int)) = some (.int .i64 r) ∧
    binV .add (.int .i64 r) (.int .i64 (n : Int)) = some (.int .i64 r2) ∧ binV .rem (.int .i64 r2) (.int .i64 (n : Int)) = some (.int .i64 (j : Int)) ∧ j < n := by
  have hpos : (0 : Int) < n := by omega
  have hne : (n : Int) ≠ 0 := by omega
  generalize hy : a.fdiv (2 ^ min ((s : Int)).toNat IntKind.i64.bits) = y
  have b1 := Int.tmod_lt_of_pos y hpos
  have b2 : -(n : Int) < y.tmod n := Int.lt_tmod_of_pos y hpos
  have hw : IntKind.i64.wrap (y.tmod n + n) = y.tmod n + n := wrap_i64 (by omega) (by omega)
  have b3 := Int.tmod_lt_of_pos (y.tmod n + n) hpos
  have b4 : 0 ≤ (y.tmod n + n).tmod n := Int.tmod_nonneg _ (by omega)
  refine ⟨y, y.tmod n, y.tmod n + n, ((y.tmod n + n).tmod n).toNat, ?_, ?_, ?_, ?_, by omega⟩
  · rw [bV_shr, if_neg (by omega), hy]
  · rw [bV_rem, if_neg hne]
  · rw [bV_add, hw]
  · rw [bV_rem, if_neg hne, Int.toNat_of_nonneg b4]
theorem and_one (a : Int) : binV .and (.int .i64 a) (.int .i64 1) = some (.int .i64 0) ∨ binV .and (.int .i64 a) (.int .i64 1) = some (.int .i64 1) := by
  obtain ⟨y, h1, h2⟩ := and_small a 1 (by omega)
  rw [bV_and]
  have h1' : bitsV .and .i64 a 1 = some (y : Int) := h1
  rw [h1']
  have : y = 0 ∨ y = 1 := by omega
  rcases this with rfl | rfl
  · left; rfl
  · right; rfl
theorem add_one {i : Nat} (h : i < 1000000000) : binV .add (.int .i64 (i : Int)) (.int .i64 1) = some (.int .i64 ((i + 1 : Nat) : Int)) := by rw [bV_add, wrap_i64 (by omega) (by omega)]; simp
/-- A list that is handed in. -/
theorem sl_idx {h : H} {es : Nat} {v : AV} {L : List (List AV)} (hs : SlOf h es v L) {i : Nat} (hi : i < L.length) : ∃ b, evalP (.indexAddr es) [v, .int .i64 (i : Nat)] = some (.ptr b i 0) ∧ rdK i h[b]? = some L[i] := by
  rcases hs with ⟨rfl, rfl⟩ | ⟨b, c, rfl, hc, hb⟩
  · simp at hi
  · refine ⟨b, ?_, ?_⟩
    · rw [pP_indexAddr]
      have e1 : (0 : Int) ≤ i := by omega
      have e2 : (i : Int) < (L.length : Nat) := by omega
      simp only [e1, e2, and_self, if_true]
      simp
    · rw [hb (by rintro rfl; simp at hi), rdK_row, List.getElem?_eq_getElem hi]
theorem sl_len {h : H} {es : Nat} {v : AV} {L : List (List AV)} (hs : SlOf h es v L) : evalP .lenSl [v] = some (.int .i64 L.length) := by
  rcases hs with ⟨rfl, rfl⟩ | ⟨b, c, rfl, hc, hb⟩
  · rfl
  · rw [pP_lenSl]
def sfoot (v : AV) (L : List (List AV)) : List Nat := if L = [] then [] else foot v
theorem sl_lt {h : H} {es : Nat} {v : AV} {L : List (List AV)} (hs : SlOf h es v L) : ∀ c ∈ sfoot v L, c < h.length := by
  unfold sfoot
  intro c hc
  split at hc
  · cases hc
  · rename_i hne
    rcases hs with ⟨rfl, rfl⟩ | ⟨b, c', rfl, hc', hb⟩
    · exact absurd rfl hne
    · simp only [foot, List.mem_singleton] at hc
      subst hc
      exact (List.getElem?_eq_some_iff.1 (hb hne)).1
theorem sl_keep {h k : H} {es : Nat} {v : AV} {L : List (List AV)} {G : List Nat} (hs : SlOf h es v L) (hc : Chg h k G) (hd : ∀ c ∈ sfoot v L, c ∉ G) : SlOf k es v L := by
  rcases hs with h1 | ⟨b, c', rfl, hc', hb⟩
  · exact .inl h1
  · refine .inr ⟨b, c', rfl, hc', fun hne => hc.2 b _ (hd b ?_) (hb hne)⟩
    unfold sfoot
    rw [if_neg hne]; simp [foot]
def yk (k : Nat) : Lt := { Lt.zero with kind := 2, id := k }
theorem Sep.off {k : H} {l : List (List Nat)} (s : Sep k l) {i a b c : Nat} (h1 : i ≠ a) (h2 : i ≠ b) (h3 : i ≠ c) {F : List Nat} (hF : l.getD i [] = F) : ∀ z ∈ F, z ∉ l.getD a [] ++ l.getD b [] ++ l.getD c [] := by
  subst hF
  intro z hz hm
  simp only [List.mem_append] at hm
  rcases hm with (hm | hm) | hm
  · exact s.ne i a h1 z hz hm
  · exact s.ne i b h2 z hz hm
  · exact s.ne i c h3 z hz hm
end Go.Proofs.Ytmbkklobijflkaa.Lk
