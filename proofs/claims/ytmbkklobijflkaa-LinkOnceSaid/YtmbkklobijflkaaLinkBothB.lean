/- Link: both ends send; time goes on at both. -/
import Derived.Test.YtmbkklobijflkaaLinkBothA
set_option maxRecDepth 100000
set_option linter.unusedVariables false
set_option linter.unusedSimpArgs false
namespace Go.Proofs.Ytmbkklobijflkaa.Lk
open Go Go.Eng F

theorem sending {k : H} {l : List (List Nat)} (sp : Sep k l) {ia iu : Nat} (hne : ia ≠ iu) (hia : ia < l.length) (hiu : iu < l.length) {ga ma : Nat} {va uv : AV} {A : Ls} {U : List Pk}
    (fa : l.getD ia [] = ga :: ma :: foot va) (fu : l.getD iu [] = foot uv) (a : LinkAt k ga ma va A) (ou : Own k 25 uv (pks U)) (hA : A.waits.length < 4294967295) (hU : U.length < 4294967295) (x : Lt) {p : Pk} (hp : p = ⟨A.me, A.peer, IntKind.i64.wrap (A.out + 1), A.came, x⟩) :
    ∃ k1 va' uv' k2, call fs2 ex2 15 [.ptr ga 0 0, .agg x.av] k = some (.agg p.av, k1) ∧ appendV 25 false uv (.slice k1.length 25 0 1 1 true) (k1 ++ [.row 25 [p.av] true true]) = some (uv', k2) ∧
      LinkAt k2 ga ma va' (A.send x) ∧ Own k2 25 uv' (pks (U ++ [p])) ∧ Chg k k2 (l.getD ia [] ++ l.getD iu []) ∧ Sep k2 ((l.set ia (ga :: ma :: foot va')).set iu (foot uv')) := by
  obtain ⟨⟨_, k1⟩, e15, rfl, va', a1, c1, f1⟩ := send_call a hA x
  simp only at e15 a1 c1 f1
  rw [← hp] at e15
  have l1 := c1.1
  have ou1 := ou.keep c1 (fun c hc hm => by
    refine sp.away hne.symm fu fa c hc ?_
    simp only [List.mem_cons] at hm ⊢
    rcases hm with h | h
    · exact .inl h
    · exact .inr (.inr h))
  have cK : Chg k1 (k1 ++ [.row 25 [p.av] true true]) [] := Chg.app _ _ _
  obtain ⟨uv', k2, e9, ou2, c2, f2⟩ := own_app (ou1.keep cK (by simp)) (x := .slice k1.length 25 0 1 1 true) (X := [p.av]) (by simp [elsOf]) (by simpa [pks] using pks_scalar [p]) (by simp [pks]; omega)
  have sp1 : Sep (k1 ++ [.row 25 [p.av] true true]) (l.set ia (ga :: ma :: foot va')) := sp.upd hia (by simp; omega) (fun c hc => by
    rw [fa]
    simp only [List.mem_cons] at hc ⊢
    rcases hc with h | h | h
    · simp [h]
    · simp [h]
    · exact .inr (f1 c h)) (fun c hc => by have := a1.lt c hc; simp; omega)
  have g1 : (l.set ia (ga :: ma :: foot va')).getD iu [] = foot uv := by rw [getD_set _ _ _ _ hia, if_neg hne]; exact fu
  have g2 : (l.set ia (ga :: ma :: foot va')).getD ia [] = ga :: ma :: foot va' := by rw [getD_set _ _ _ _ hia, if_pos rfl]
  refine ⟨k1, va', uv', k2, e15, e9, (a1.keep' cK (by simp)).keep' c2 (sp1.away hne g2 g1), by simpa [pks] using ou2, ?_, sp1.upd (by simpa using hiu) c2.1 (fun c hc => by rw [g1]; exact f2 c hc) ou2.lt⟩
  refine ((c1.mono (fun c hc => ?_)).trans cK (by simp)).trans c2 (fun c hc => .inl ?_)
  · simp only [List.mem_append]
    left; rw [fa]
    simp only [List.mem_cons] at hc ⊢
    rcases hc with h | h
    · exact .inl h
    · exact .inr (.inr h)
  · simp only [List.mem_append]
    right; rw [fu]; exact hc
section
variable {k : H} {l : List (List Nat)} {ga ma gb mb : Nat} {va vb rv lv : AV} {A B : Ls} {R L : List Lt}
theorem Wd.cut (w : Wd k l ga ma gb mb va vb rv lv A B R L) : Wd k (l.take 4) ga ma gb mb va vb rv lv A B R L := by
  have h4 := w.len
  have g : ∀ i, (l.take 4).getD i [] = if i < 4 then l.getD i [] else [] := by
    intro i
    simp only [List.getD_eq_getElem?_getD, List.getElem?_take]
    split <;> rfl
  refine ⟨⟨fun i c hc => ?_, fun i j hij c hc hc' => ?_⟩, ?_, ?_, ?_, ?_, by simp; omega, w.a, w.b, w.r, w.l⟩
  · rw [g] at hc
    split at hc
    · exact w.sp.lt i c hc
    · cases hc
  · rw [g] at hc hc'
    split at hc
    · split at hc'
      · exact w.sp.ne i j hij c hc hc'
      · cases hc'
    · cases hc
  · rw [g]; exact w.fa
  · rw [g]; exact w.fb
  · rw [g]; exact w.fr
  · rw [g]; exact w.fl
theorem Wd.quietA (w : Wd k l ga ma gb mb va vb rv lv A B R L) (hlen : A.waits.length < 4294967296) (hn : 0 ≤ A.now ∧ A.now < 4611686018427387904) (hq : A.waits = [] ∨ ∃ w ∈ A.waits.head?, A.now + 1 - w.at_ < 4 ∧ 0 ≤ w.at_ ∧ w.at_ < 4611686018427387904) :
    ∃ k1, call fs2 ex2 19 [.ptr ga 0 0] k = some (.nilslice, k1) ∧ Wd k1 l ga ma gb mb va vb rv lv { A with now := A.now + 1 } B R L := by
  obtain ⟨⟨_, k1⟩, e, rfl, a1, c1⟩ := tick_quiet w.a hlen hn hq
  simp only at e a1 c1
  have hg : ∀ c ∈ [ga], c ∈ l.getD 0 [] := by intro c hc; rw [w.fa]; simp at hc; simp [hc]
  have off : ∀ i, i ≠ 0 → ∀ c ∈ l.getD i [], c ∉ [ga] := fun i hi c hc hm => w.sp.ne i 0 hi c hc (hg c hm)
  exact ⟨k1, e, ⟨w.sp.more c1.1, w.fa, w.fb, w.fr, w.fl, w.len, a1, w.b.keep' c1 (by rw [← w.fb]; exact off 1 (by omega)), w.r.keep c1 (by rw [← w.fr]; exact off 2 (by omega)), w.l.keep c1 (by rw [← w.fl]; exact off 3 (by omega))⟩⟩
theorem Wd.quietB (w : Wd k l ga ma gb mb va vb rv lv A B R L) (hlen : B.waits.length < 4294967296) (hn : 0 ≤ B.now ∧ B.now < 4611686018427387904) (hq : B.waits = [] ∨ ∃ w ∈ B.waits.head?, B.now + 1 - w.at_ < 4 ∧ 0 ≤ w.at_ ∧ w.at_ < 4611686018427387904) :
    ∃ k1, call fs2 ex2 19 [.ptr gb 0 0] k = some (.nilslice, k1) ∧ Wd k1 l ga ma gb mb va vb rv lv A { B with now := B.now + 1 } R L := by
  obtain ⟨⟨_, k1⟩, e, rfl, a1, c1⟩ := tick_quiet w.b hlen hn hq
  simp only at e a1 c1
  have hg : ∀ c ∈ [gb], c ∈ l.getD 1 [] := by intro c hc; rw [w.fb]; simp at hc; simp [hc]
  have off : ∀ i, i ≠ 1 → ∀ c ∈ l.getD i [], c ∉ [gb] := fun i hi c hc hm => w.sp.ne i 1 hi c hc (hg c hm)
  exact ⟨k1, e, ⟨w.sp.more c1.1, w.fa, w.fb, w.fr, w.fl, w.len, w.a.keep' c1 (by rw [← w.fa]; exact off 0 (by omega)), a1, w.r.keep c1 (by rw [← w.fr]; exact off 2 (by omega)), w.l.keep c1 (by rw [← w.fl]; exact off 3 (by omega))⟩⟩
theorem getD_snoc (l : List (List Nat)) (F : List Nat) (i : Nat) (h : i < l.length) : (l ++ [F]).getD i [] = l.getD i [] := by
  simp only [List.getD_eq_getElem?_getD, List.getElem?_append_left h]
theorem getD_last (l : List (List Nat)) (F : List Nat) : (l ++ [F]).getD l.length [] = F := by
  simp only [List.getD_eq_getElem?_getD, List.getElem?_append_right (Nat.le_refl _), Nat.sub_self]
  rfl
theorem Wd.againA (w : Wd k l ga ma gb mb va vb rv lv A B R L) (hl : l.length = 4) (hlen : A.waits.length < 4294967295) (hn : 0 ≤ A.now ∧ A.now < 4611686018427387904) (hq : ∃ w ∈ A.waits.head?, ¬ A.now + 1 - w.at_ < 4 ∧ 0 ≤ w.at_ ∧ w.at_ < 4611686018427387904) :
    ∃ ag k1, call fs2 ex2 19 [.ptr ga 0 0] k = some (ag, k1) ∧ Wd k1 (l ++ [foot ag]) ga ma gb mb va vb rv lv { A with now := A.now + 1, waits := A.waits.map (Sn.anew (A.now + 1)) } B R L ∧ Own k1 25 ag (pks A.again) := by
  obtain ⟨⟨ag, k1⟩, e, a1, o1, c1, f1⟩ := tick_again w.a hlen hn hq
  simp only at e a1 o1 c1 f1
  have hg : ∀ c ∈ ga :: foot va, c ∈ l.getD 0 [] := by
    intro c hc; rw [w.fa]
    simp only [List.mem_cons] at hc ⊢
    rcases hc with h | h
    · exact .inl h
    · exact .inr (.inr h)
  have off : ∀ i, i ≠ 0 → ∀ c ∈ l.getD i [], c ∉ ga :: foot va := fun i hi c hc hm => w.sp.ne i 0 hi c hc (hg c hm)
  refine ⟨ag, k1, e, ⟨w.sp.fresh c1.1 f1 o1.lt, ?_, ?_, ?_, ?_, by simp; omega, a1, w.b.keep' c1 (by rw [← w.fb]; exact off 1 (by omega)), w.r.keep c1 (by rw [← w.fr]; exact off 2 (by omega)), w.l.keep c1 (by rw [← w.fl]; exact off 3 (by omega))⟩, o1⟩
  · rw [getD_snoc _ _ _ (by omega)]; exact w.fa
  · rw [getD_snoc _ _ _ (by omega)]; exact w.fb
  · rw [getD_snoc _ _ _ (by omega)]; exact w.fr
  · rw [getD_snoc _ _ _ (by omega)]; exact w.fl
theorem Wd.againB (w : Wd k l ga ma gb mb va vb rv lv A B R L) (hl : l.length = 4) (hlen : B.waits.length < 4294967295) (hn : 0 ≤ B.now ∧ B.now < 4611686018427387904) (hq : ∃ w ∈ B.waits.head?, ¬ B.now + 1 - w.at_ < 4 ∧ 0 ≤ w.at_ ∧ w.at_ < 4611686018427387904) :
    ∃ ag k1, call fs2 ex2 19 [.ptr gb 0 0] k = some (ag, k1) ∧ Wd k1 (l ++ [foot ag]) ga ma gb mb va vb rv lv A { B with now := B.now + 1, waits := B.waits.map (Sn.anew (B.now + 1)) } R L ∧ Own k1 25 ag (pks B.again) := by
  obtain ⟨⟨ag, k1⟩, e, a1, o1, c1, f1⟩ := tick_again w.b hlen hn hq
  simp only at e a1 o1 c1 f1
  have hg : ∀ c ∈ gb :: foot vb, c ∈ l.getD 1 [] := by
    intro c hc; rw [w.fb]
    simp only [List.mem_cons] at hc ⊢
    rcases hc with h | h
    · exact .inl h
    · exact .inr (.inr h)
  have off : ∀ i, i ≠ 1 → ∀ c ∈ l.getD i [], c ∉ gb :: foot vb := fun i hi c hc hm => w.sp.ne i 1 hi c hc (hg c hm)
  refine ⟨ag, k1, e, ⟨w.sp.fresh c1.1 f1 o1.lt, ?_, ?_, ?_, ?_, by simp; omega, w.a.keep' c1 (by rw [← w.fa]; exact off 0 (by omega)), a1, w.r.keep c1 (by rw [← w.fr]; exact off 2 (by omega)), w.l.keep c1 (by rw [← w.fl]; exact off 3 (by omega))⟩, o1⟩
  · rw [getD_snoc _ _ _ (by omega)]; exact w.fa
  · rw [getD_snoc _ _ _ (by omega)]; exact w.fb
  · rw [getD_snoc _ _ _ (by omega)]; exact w.fr
  · rw [getD_snoc _ _ _ (by omega)]; exact w.fl
end
section
variable {x y : Nat → Lt} {za zb : Int} {n m : Nat} {A B : Ls} {R L : List Lt} {ca cb qa qb : Nat}
theorem Bo.tickA (b : Bo x y za zb n m A B R L ca cb qa qb) (t : Int) : Bo x y za zb n m { A with now := t } B R L ca cb qa qb :=
  ⟨b.me, b.peer, b.out, b.came, b.kept, b.waits, b.q, b.me', b.peer', b.out', b.came', b.kept', b.waits', b.q', b.told, b.told'⟩
theorem Bo.tickB (b : Bo x y za zb n m A B R L ca cb qa qb) (t : Int) : Bo x y za zb n m A { B with now := t } R L ca cb qa qb := (b.symm.tickA t).symm
theorem Bo.anewA (b : Bo x y za zb n m A B R L ca cb qa qb) (t u : Int) : Bo x y za zb n m { A with now := t, waits := A.waits.map (Sn.anew u) } B R L ca cb qa qb :=
  ⟨b.me, b.peer, b.out, b.came, b.kept, b.waits.anew u, b.q, b.me', b.peer', b.out', b.came', b.kept', b.waits', b.q', b.told, b.told'⟩
theorem Bo.anewB (b : Bo x y za zb n m A B R L ca cb qa qb) (t u : Int) : Bo x y za zb n m A { B with now := t, waits := B.waits.map (Sn.anew u) } R L ca cb qa qb := (b.symm.anewA t u).symm
theorem Bo.againA (b : Bo x y za zb n m A B R L ca cb qa qb) : A.again = agn x za zb n qa ca := by
  rw [again_eq b.waits, b.me, b.peer, b.came]; rfl
theorem Bo.againB (b : Bo x y za zb n m A B R L ca cb qa qb) : B.again = agn y zb za m qb cb := b.symm.againA
end
/-- How it stands at time t: all were sent at time 0. -/
structure Tm (t : Nat) (A : Ls) : Prop where
  now : A.now = t
  at0 : ∀ w ∈ A.waits, w.at_ = 0
  rest : 4 ≤ t → A.waits = []
theorem head_of {W : List Sn} (h : W ≠ []) : ∃ w ∈ W.head?, w ∈ W := by
  cases W with
  | nil => exact absurd rfl h
  | cons a l => exact ⟨a, by simp, by simp⟩
theorem Tm.quiet {t : Nat} {A : Ls} (h : Tm t A) (hq : A.waits = [] ∨ t < 3) : A.waits = [] ∨ ∃ w ∈ A.waits.head?, A.now + 1 - w.at_ < 4 ∧ 0 ≤ w.at_ ∧ w.at_ < 4611686018427387904 := by
  by_cases h0 : A.waits = []
  · exact .inl h0
  · obtain ⟨w, hw, hm⟩ := head_of h0
    have := h.at0 w hm
    have := h.now
    have := h.rest
    rcases hq with hq | hq
    · exact absurd hq h0
    · exact .inr ⟨w, hw, by omega, by omega, by omega⟩
theorem Tm.loud {t : Nat} {A : Ls} (h : Tm t A) (h0 : A.waits ≠ []) (h3 : ¬ t < 3) : ∃ w ∈ A.waits.head?, ¬ A.now + 1 - w.at_ < 4 ∧ 0 ≤ w.at_ ∧ w.at_ < 4611686018427387904 := by
  obtain ⟨w, hw, hm⟩ := head_of h0
  have := h.at0 w hm
  have := h.now
  exact ⟨w, hw, by omega, by omega, by omega⟩
theorem Wd.appNil {k : H} {l : List (List Nat)} {ga ma gb mb : Nat} {va vb rv lv : AV} {A B : Ls} {R L : List Lt} (w : Wd k l ga ma gb mb va vb rv lv A B R L) : Wd k (l ++ [[]]) ga ma gb mb va vb rv lv A B R L := by
  have h4 := w.len
  refine ⟨w.sp.fresh (Nat.le_refl _) (by simp) (by simp), ?_, ?_, ?_, ?_, by simp; omega, w.a, w.b, w.r, w.l⟩
  · rw [getD_snoc _ _ _ (by omega)]; exact w.fa
  · rw [getD_snoc _ _ _ (by omega)]; exact w.fb
  · rw [getD_snoc _ _ _ (by omega)]; exact w.fr
  · rw [getD_snoc _ _ _ (by omega)]; exact w.fl
theorem tickA {x y : Nat → Lt} {za zb : Int} {n m ca cb qa qb t : Nat} {k : H} {l : List (List Nat)} {ga ma gb mb : Nat} {va vb rv lv : AV} {A B : Ls} {R L : List Lt} (w : Wd k l ga ma gb mb va vb rv lv A B R L) (hl : l.length = 4) (b : Bo x y za zb n m A B R L ca cb qa qb) (hn : n ≤ 64) (hm : m ≤ 64) (tA : Tm t A) (ht : t ≤ 1000) :
    ∃ ag N q k1 A1, call fs2 ex2 19 [.ptr ga 0 0] k = some (ag, k1) ∧ Wd k1 (l ++ [foot ag]) ga ma gb mb va vb rv lv A1 B R L ∧ Bo x y za zb n m A1 B R L ca cb qa qb ∧ Own k1 25 ag (pks (agn x za zb N q ca)) ∧ q ≤ N ∧ N ≤ n ∧ q ≤ qa ∧ q ≤ cb ∧
      ∀ (A' B' : Ls) (R' : List Lt) (cb' qa' qb' : Nat), Bo x y za zb n m A' B' R' L ca cb' qa' qb' → N ≤ cb' → q ≤ qa' → (q < N → cb' ≤ qa') → A'.now = A1.now → (∀ w ∈ A'.waits, w ∈ A1.waits) → Tm (t + 1) A' := by
  have sa := b.sizes (by omega) (by omega)
  have hnow := tA.now
  by_cases hq : A.waits = [] ∨ t < 3
  · obtain ⟨k1, e, w1⟩ := w.quietA (by omega) (by omega) (tA.quiet hq)
    refine ⟨.nilslice, 0, 0, k1, _, e, w1.appNil, b.tickA _, .inl ⟨rfl, rfl⟩, Nat.le_refl _, Nat.zero_le _, Nat.zero_le _, Nat.zero_le _, fun A' B' R' cb' qa' qb' b' _ _ _ h1 h2 => ⟨by rw [h1]; simp only; omega, fun w hw => tA.at0 w (h2 w hw), fun h4 => ?_⟩⟩
    have h0 : A.waits = [] := by
      rcases hq with hq | hq
      · exact hq
      · omega
    cases hA : A'.waits with
    | nil => rfl
    | cons a l => have := h2 a (by rw [hA]; simp); simp only [h0] at this; cases this
  · have h0 : A.waits ≠ [] := fun h => hq (.inl h)
    have h3 : ¬ t < 3 := fun h => hq (.inr h)
    obtain ⟨ag, k1, e, w1, o1⟩ := w.againA hl (by omega) (by omega) (tA.loud h0 h3)
    rw [b.againA] at o1
    refine ⟨ag, n, qa, k1, _, e, w1, b.anewA _ _, o1, b.waits.1, Nat.le_refl _, Nat.le_refl _, b.q, fun A' B' R' cb' qa' qb' b' g1 g2 g3 h1 h2 => ?_⟩
    have hq1 := b'.waits.1
    have hqn : qa' = n := by
      by_cases h : qa < n
      · have := g3 h; omega
      · omega
    have hw := b'.waits
    rw [hqn] at hw
    have h0 := hw.done
    exact ⟨by rw [h1]; simp only; omega, by rw [h0]; simp, fun _ => h0⟩
theorem tickB {x y : Nat → Lt} {za zb : Int} {n m ca cb qa qb t : Nat} {k : H} {l : List (List Nat)} {ga ma gb mb : Nat} {va vb rv lv : AV} {A B : Ls} {R L : List Lt} (w : Wd k l ga ma gb mb va vb rv lv A B R L) (hl : l.length = 4) (b : Bo x y za zb n m A B R L ca cb qa qb) (hn : n ≤ 64) (hm : m ≤ 64) (tB : Tm t B) (ht : t ≤ 1000) :
    ∃ ag N q k1 B1, call fs2 ex2 19 [.ptr gb 0 0] k = some (ag, k1) ∧ Wd k1 (l ++ [foot ag]) ga ma gb mb va vb rv lv A B1 R L ∧ Bo x y za zb n m A B1 R L ca cb qa qb ∧ Own k1 25 ag (pks (agn y zb za N q cb)) ∧ q ≤ N ∧ N ≤ m ∧ q ≤ qb ∧ q ≤ ca ∧
      ∀ (A' B' : Ls) (L' : List Lt) (ca' qa' qb' : Nat), Bo x y za zb n m A' B' R L' ca' cb qa' qb' → N ≤ ca' → q ≤ qb' → (q < N → ca' ≤ qb') → B'.now = B1.now → (∀ w ∈ B'.waits, w ∈ B1.waits) → Tm (t + 1) B' := by
  have sa := b.symm.sizes (by omega) (by omega)
  have hnow := tB.now
  by_cases hq : B.waits = [] ∨ t < 3
  · obtain ⟨k1, e, w1⟩ := w.quietB (by omega) (by omega) (tB.quiet hq)
    refine ⟨.nilslice, 0, 0, k1, _, e, w1.appNil, b.tickB _, .inl ⟨rfl, rfl⟩, Nat.le_refl _, Nat.zero_le _, Nat.zero_le _, Nat.zero_le _, fun A' B' R' cb' qa' qb' b' _ _ _ h1 h2 => ⟨by rw [h1]; simp only; omega, fun w hw => tB.at0 w (h2 w hw), fun h4 => ?_⟩⟩
    have h0 : B.waits = [] := by
      rcases hq with hq | hq
      · exact hq
      · omega
    cases hA : B'.waits with
    | nil => rfl
    | cons a l => have := h2 a (by rw [hA]; simp); simp only [h0] at this; cases this
  · have h0 : B.waits ≠ [] := fun h => hq (.inl h)
    have h3 : ¬ t < 3 := fun h => hq (.inr h)
    obtain ⟨ag, k1, e, w1, o1⟩ := w.againB hl (by omega) (by omega) (tB.loud h0 h3)
    rw [b.againB] at o1
    refine ⟨ag, m, qb, k1, _, e, w1, b.anewB _ _, o1, b.waits'.1, Nat.le_refl _, Nat.le_refl _, b.q', fun A' B' R' ca' qa' qb' b' g1 g2 g3 h1 h2 => ?_⟩
    have hq1 := b'.waits'.1
    have hqn : qb' = m := by
      by_cases h : qb < m
      · have := g3 h; omega
      · omega
    have hw := b'.waits'
    rw [hqn] at hw
    have h0 := hw.done
    exact ⟨by rw [h1]; simp only; omega, by rw [h0]; simp, fun _ => h0⟩
end Go.Proofs.Ytmbkklobijflkaa.Lk
