/- A book of letters alone: who holds which block; the book as it grows. -/
import Derived.Test.YtmbkklobijflkaaBkUL
set_option maxRecDepth 100000
set_option linter.unusedVariables false
set_option linter.unusedSimpArgs false
namespace Go.Proofs.Ytmbkklobijflkaa.Bk
open Go Go.Eng F

/-- From (k, tg) to (k', tg'): blocks of the tags T may be turned; new blocks are tagged. -/
structure Stp (T : Nat → Prop) (k k' : H) (tg tg' : Nat → Nat) : Prop where
  len : k.length ≤ k'.length
  old : ∀ c, c < k.length → tg' c = tg c
  keep : ∀ c x, k[c]? = some x → ¬ T (tg c) → k'[c]? = some x
theorem Stp.refl (T : Nat → Prop) (k : H) (tg : Nat → Nat) : Stp T k k tg tg := ⟨Nat.le_refl _, fun _ _ => rfl, fun _ _ h _ => h⟩
theorem Stp.trans {T : Nat → Prop} {k k' k'' : H} {tg tg' tg'' : Nat → Nat} (a : Stp T k k' tg tg') (b : Stp T k' k'' tg' tg'') : Stp T k k'' tg tg'' :=
  ⟨Nat.le_trans a.len b.len, fun c hc => (b.old c (Nat.lt_of_lt_of_le hc a.len)).trans (a.old c hc), fun c x hx hn => by
    have hc := (List.getElem?_eq_some_iff.1 hx).1
    exact b.keep c x (a.keep c x hx hn) (by rw [a.old c hc]; exact hn)⟩
theorem Stp.mono {T U : Nat → Prop} {k k' : H} {tg tg' : Nat → Nat} (a : Stp T k k' tg tg') (h : ∀ t, T t → U t) : Stp U k k' tg tg' := ⟨a.len, a.old, fun c x hx hn => a.keep c x hx (fun ht => hn (h _ ht))⟩
theorem Stp.of {T : Nat → Prop} {k k' : H} {tg tg' : Nat → Nat} {F : List Nat} (c : Chg k k' F) (h : ∀ z ∈ F, z < k.length → T (tg z)) (ho : ∀ z, z < k.length → tg' z = tg z) : Stp T k k' tg tg' :=
  ⟨c.1, ho, fun z x hx hn => c.2 z x (fun hm => hn (h z hm (List.getElem?_eq_some_iff.1 hx).1)) hx⟩
open Classical in
theorem Stp.chg {T : Nat → Prop} {k k' : H} {tg tg' : Nat → Nat} (s : Stp T k k' tg tg') : ∃ F : List Nat, Chg k k' F ∧ ∀ c, ¬ T (tg c) → c ∉ F := by
  refine ⟨(List.range k.length).filter (fun c => decide (T (tg c))), ⟨s.len, fun c x hn hx => s.keep c x hx (fun ht => hn ?_)⟩, fun c hc hm => ?_⟩
  · rw [List.mem_filter]
    exact ⟨List.mem_range.2 (List.getElem?_eq_some_iff.1 hx).1, decide_eq_true ht⟩
  · rw [List.mem_filter] at hm
    exact hc (of_decide_eq_true hm.2)
section
variable {T : Nat → Prop} {k k' : H} {tg tg' : Nat → Nat} {es : Nat} {v : AV} {L : List (List AV)}
theorem OwnE.stp (o : OwnE k es v L) (s : Stp T k k' tg tg') (h : ∀ c ∈ foot v, ¬ T (tg c)) : OwnE k' es v L := by
  obtain ⟨F, c, hF⟩ := s.chg
  exact o.keep c (fun z hz => hF z (h z hz))
theorem RdS.stp (o : RdS k es v L) (s : Stp T k k' tg tg') (h : ∀ c ∈ foot v, ¬ T (tg c)) : RdS k' es v L := by
  obtain ⟨F, c, hF⟩ := s.chg
  exact o.keep c (fun z hz => hF z (h z hz))
theorem _root_.Go.Proofs.Ytmbkklobijflkaa.BkL.Reps.stp {X : List BkL.Ltr} (o : BkL.Reps k L X) (s : Stp T k k' tg tg') (h : ∀ e ∈ L, ∀ a ∈ e, ∀ c ∈ foot0 a, ¬ T (tg c)) : BkL.Reps k' L X := by
  obtain ⟨F, c, hF⟩ := s.chg
  exact o.keep c (fun e he a ha z hz => hF z (h e he a ha z hz))
end
/-- Tags: 1 the book, 2 to 5 its lists of lists, 6 what nobody turns, 10 + 2 i and 11 + 2 i the lists. -/
structure BkAt (k : H) (tg : Nat → Nat) (g : Nat) (pl wl : AV) (vl ul : List AV) (Xl : Nat → List BkL.Ltr) : Prop where
  row : k[g]? = some (bookB .nilslice .nilslice pl wl)
  tgg : tg g = 1
  plo : OwnE k 1 pl (vl.map fun u => [u])
  wlo : OwnE k 1 wl (ul.map fun u => [u])
  tpl : ∀ c ∈ foot pl, tg c = 4
  twl : ∀ c ∈ foot wl, tg c = 5
  h2l : ul.length = vl.length
  lvl : vl.length ≤ 250
  hvl : ∀ i (h : i < vl.length), ∃ L, OwnE k 21 vl[i] L ∧ BkL.Reps k L (Xl i) ∧ (∀ c ∈ foot vl[i], tg c = 11 + 2 * i) ∧ ∀ e ∈ L, ∀ a ∈ e, ∀ c ∈ foot0 a, tg c = 6
  hul : ∀ i (h : i < ul.length), ∃ L, OwnE k 21 ul[i] L ∧ BkL.Reps k L (Xl i) ∧ (∀ c ∈ foot ul[i], tg c = 6) ∧ ∀ e ∈ L, ∀ a ∈ e, ∀ c ∈ foot0 a, tg c = 6
  sxl : ∀ i, (Xl i).length ≤ 50000 ∧ ∀ x ∈ Xl i, x.small
/-- A book, with so many lists. -/
def Book (k : H) (tg : Nat → Nat) (g nl : Nat) : Prop := ∃ pl wl vl ul Xl, BkAt k tg g pl wl vl ul Xl ∧ vl.length = nl
/-- The tags of a book. -/
def BkTag (t : Nat) : Prop := (1 ≤ t ∧ t ≤ 6) ∨ 10 ≤ t
theorem BkAt.stp {T : Nat → Prop} {k k' : H} {tg tg' : Nat → Nat} {g : Nat} {pl wl : AV} {vl ul : List AV} {Xl : Nat → List BkL.Ltr} (b : BkAt k tg g pl wl vl ul Xl) (s : Stp T k k' tg tg') (hT : ∀ t, T t → ¬ BkTag t) : BkAt k' tg' g pl wl vl ul Xl := by
  have no : ∀ t, BkTag t → ¬ T t := fun t h ht => hT t ht h
  have n1 := no 1 (.inl (by omega))
  have n4 := no 4 (.inl (by omega))
  have n5 := no 5 (.inl (by omega))
  have n6 := no 6 (.inl (by omega))
  have nh' : ∀ i, ¬ T (11 + 2 * i) := fun i => no _ (.inr (by omega))
  have hgl := (List.getElem?_eq_some_iff.1 b.row).1
  have old := s.old
  have olt : ∀ {es : Nat} {v : AV} {L : List (List AV)} {t : Nat}, OwnE k es v L → (∀ c ∈ foot v, tg c = t) → ∀ c ∈ foot v, tg' c = t := fun o h c hc => (old c (o.lt c hc)).trans (h c hc)
  refine ⟨s.keep g _ b.row (by rw [b.tgg]; exact n1), by rw [old g hgl]; exact b.tgg, b.plo.stp s (fun c hc => by rw [b.tpl c hc]; exact n4), b.wlo.stp s (fun c hc => by rw [b.twl c hc]; exact n5),
    olt b.plo b.tpl, olt b.wlo b.twl, b.h2l, b.lvl, fun i h => ?_, fun i h => ?_, b.sxl⟩
  · obtain ⟨L, o, r, t, u⟩ := b.hvl i h
    refine ⟨L, o.stp s (fun c hc => by rw [t c hc]; exact nh' i), r.stp s (fun e he a ha c hc => by rw [u e he a ha c hc]; exact n6), olt o t, fun e he a ha c hc => ?_⟩
    rw [old c (r.lt0 e he a ha c hc)]; exact u e he a ha c hc
  · obtain ⟨L, o, r, t, u⟩ := b.hul i h
    refine ⟨L, o.stp s (fun c hc => by rw [t c hc]; exact n6), r.stp s (fun e he a ha c hc => by rw [u e he a ha c hc]; exact n6), olt o t, fun e he a ha c hc => ?_⟩
    rw [old c (r.lt0 e he a ha c hc)]; exact u e he a ha c hc
set_option maxHeartbeats 4000000 in
theorem Book.addL {k : H} {tg : Nat → Nat} {g nl : Nat} (bk : Book k tg g nl) {v : AV} {L : List (List AV)} {X : List BkL.Ltr} (ho : OwnE k 21 v L) (hL : BkL.Reps k L X) (hs : X.length ≤ 50000 ∧ ∀ x ∈ X, x.small) (ht : ∀ c ∈ foot v, tg c = 11 + 2 * nl) (hn : ∀ e ∈ L, ∀ a ∈ e, ∀ c ∈ foot0 a, tg c = 6) :
    Yld (call Lp.fs3 Lp.ex3 22 [.ptr g 0 0, v] k) fun r => ∃ k' tg' nl', r = (.tuple [], k') ∧ Book k' tg' g nl' ∧ Stp (fun t => t = 1 ∨ t = 4 ∨ t = 5) k k' tg tg' := by
  obtain ⟨pl, wl, vl, ul, Xl, b, rfl⟩ := bk
  by_cases hlen : vl.length < 250
  · have hgl := (List.getElem?_eq_some_iff.1 b.row).1
    have fgp : ∀ {w : AV} {t : Nat}, (∀ c ∈ foot w, tg c = t) → t ≠ 1 → g ∉ foot w := fun h h1 hm => h1 ((h g hm).symm.trans b.tgg)
    have apt : ∀ {u w : AV} {t t' : Nat}, (∀ c ∈ foot u, tg c = t) → (∀ c ∈ foot w, tg c = t') → t ≠ t' → ∀ c ∈ foot u, c ∉ foot w := fun h h' hne c hc hm => hne ((h c hc).symm.trans (h' c hm))
    have s0 : AV.cells AV.nilslice = some [AV.nilslice] ∧ AV.scalar AV.nilslice = true := ⟨rfl, rfl⟩
    have s3 := b.plo.rds.cells
    have s4 := b.wlo.rds.cells
    obtain ⟨⟨_, k'⟩, e0, pv', wv', w, M, _, n1, n2, hr, e1, e2, e3, e4, e5, e6, e7, e8, e9, e10, e11, e12⟩ := BkL.add_core b.row b.plo b.wlo hlen b.h2l ho hL hs (fgp b.tpl (by omega)) (fgp b.twl (by omega)) (apt b.tpl b.twl (by omega)) (fgp ht (by omega)) (apt ht b.tpl (by omega)) (fun e he a ha c hc => ⟨fun h => by have := hn e he a ha c hc; rw [h, b.tgg] at this; omega, fun h => by have := hn e he a ha c hc; have := b.tpl c h; omega⟩) s0 s0 ⟨s3.1, s3.2.1⟩ ⟨s4.1, s4.2.1⟩
    cases hr
    obtain ⟨tg', htg⟩ : ∃ tg' : Nat → Nat, tg' = fun c => if c < k.length then tg c else if c < n1 then 4 else if c < n2 then 6 else 5 := ⟨_, rfl⟩
    have old : ∀ c, c < k.length → tg' c = tg c := fun c hc => by rw [htg]; simp only; rw [if_pos hc]
    have newP : ∀ c ∈ foot pv', tg' c = 4 := fun c hc => by have := e9 c hc; rw [htg]; simp only; rw [if_neg (by omega), if_pos (by omega)]
    have newW : ∀ c ∈ foot wv', tg' c = 5 := fun c hc => by have := e12 c hc; rw [htg]; simp only; rw [if_neg (by omega), if_neg (by omega), if_neg (by omega)]
    have new6 : ∀ c, n1 ≤ c ∧ c < n2 → tg' c = 6 := fun c hc => by rw [htg]; simp only; rw [if_neg (by omega), if_neg (by omega), if_pos (by omega)]
    have s : Stp (fun t => t = 1 ∨ t = 4 ∨ t = 5) k k' tg tg' := Stp.of e6 (fun z hz _ => by
      simp only [List.mem_cons, List.mem_append] at hz
      rcases hz with rfl | hz | hz
      · exact .inl b.tgg
      · exact .inr (.inl (b.tpl z hz))
      · exact .inr (.inr (b.twl z hz))) old
    clear htg
    obtain ⟨X', hX⟩ : ∃ X' : Nat → List BkL.Ltr, ∀ i, X' i = if i = vl.length then X else Xl i := ⟨_, fun i => rfl⟩
    refine ⟨_, e0, k', tg', vl.length + 1, rfl, ⟨pv', wv', vl ++ [v], ul ++ [w], X', ⟨e1, (old g hgl).trans b.tgg, e2, e3, newP, newW, by have := b.h2l; simp; omega, by simp; omega, fun i h => by
        by_cases hi : i < vl.length
        · simp only [List.getElem_append_left hi]
          obtain ⟨L', o, r, t, u⟩ := b.hvl i hi
          have hne : ¬ i = vl.length := by omega
          rw [hX i, if_neg hne]
          exact ⟨L', o.stp s (fun c hc => by rw [t c hc]; simp; omega), r.stp s (fun e he a ha c hc => by rw [u e he a ha c hc]; simp), fun c hc => (old c (o.lt c hc)).trans (t c hc), fun e he a ha c hc => (old c (r.lt0 e he a ha c hc)).trans (u e he a ha c hc)⟩
        · have e : i = vl.length := by simp at h; omega
          subst e
          simp only [List.getElem_append_right (Nat.le_refl _), Nat.sub_self, List.getElem_cons_zero]
          rw [hX _, if_pos rfl]
          exact ⟨L, ho.stp s (fun c hc => by rw [ht c hc]; simp; omega), hL.stp s (fun e he a ha c hc => by rw [hn e he a ha c hc]; simp), fun c hc => by rw [old c (ho.lt c hc), ht c hc], fun e he a ha c hc => (old c (hL.lt0 e he a ha c hc)).trans (hn e he a ha c hc)⟩, fun i h => by
        by_cases hi : i < ul.length
        · simp only [List.getElem_append_left hi]
          obtain ⟨L', o, r, t, u⟩ := b.hul i hi
          have hne : ¬ i = vl.length := by have := b.h2l; omega
          rw [hX i, if_neg hne]
          exact ⟨L', o.stp s (fun c hc => by rw [t c hc]; simp), r.stp s (fun e he a ha c hc => by rw [u e he a ha c hc]; simp), fun c hc => (old c (o.lt c hc)).trans (t c hc), fun e he a ha c hc => (old c (r.lt0 e he a ha c hc)).trans (u e he a ha c hc)⟩
        · have e : i = vl.length := by have := b.h2l; simp at h; omega
          subst e
          have e2 : (ul ++ [w])[vl.length] = w := by
            rw [List.getElem_append_right (by have := b.h2l; omega)]
            simp [b.h2l]
          rw [e2, hX _, if_pos rfl]
          exact ⟨M, e4, e5, fun c hc => new6 c (e10 c hc), fun e he a ha c hc => new6 c (e11 e he a ha c hc)⟩, fun i => by rw [hX i]; split; exact hs; exact b.sxl i⟩, by simp⟩, s⟩
  · exact ⟨_, BkL.add_full b.row b.plo (by omega), k, tg, _, rfl, ⟨pl, wl, vl, ul, Xl, b, rfl⟩, Stp.refl _ _ _⟩
theorem Book.stp {T : Nat → Prop} {k k' : H} {tg tg' : Nat → Nat} {g nl : Nat} (b : Book k tg g nl) (s : Stp T k k' tg tg') (hT : ∀ t, T t → ¬ BkTag t) : Book k' tg' g nl := by
  obtain ⟨pl, wl, vl, ul, Xl, b, h2⟩ := b
  exact ⟨pl, wl, vl, ul, Xl, b.stp s hT, h2⟩
open Classical in
theorem pick_lists {n : Nat} {P : (i : Nat) → List (List AV) → Prop} (h : ∀ i, i < n → ∃ L, P i L) : ∃ Ls : Nat → List (List AV), (∀ i, i < n → P i (Ls i)) ∧ ∀ i, ¬ i < n → Ls i = [] := by
  refine ⟨fun i => if hi : i < n then Classical.choose (h i hi) else [], fun i hi => ?_, fun i hi => ?_⟩
  · simp only [hi, dif_pos]
    exact Classical.choose_spec (h i hi)
  · simp only [hi, dif_neg, not_false_iff]
theorem Book.apart {k : H} {tg : Nat → Nat} {g nl : Nat} (bk : Book k tg g nl) : Yld (call Lp.fs3 Lp.ex3 24 [.ptr g 0 0] k) fun r => r.1 = .bool true := by
  obtain ⟨pl, wl, vl, ul, Xl, b, _⟩ := bk
  obtain ⟨Ll, hLl, hLl0⟩ := pick_lists (n := vl.length) (P := fun i L => ∀ h : i < vl.length, OwnE k 21 vl[i] L ∧ BkL.Reps k L (Xl i) ∧ ∀ c ∈ foot vl[i], tg c = 11 + 2 * i) (fun i hi => by obtain ⟨L, h1, h2, h3, _⟩ := b.hvl i hi; exact ⟨L, fun _ => ⟨h1, h2, h3⟩⟩)
  obtain ⟨Ml, hMl, _⟩ := pick_lists (n := ul.length) (P := fun i L => ∀ h : i < ul.length, OwnE k 21 ul[i] L ∧ BkL.Reps k L (Xl i)) (fun i hi => by obtain ⟨L, h1, h2, _⟩ := b.hul i hi; exact ⟨L, fun _ => ⟨h1, h2⟩⟩)
  have tvl := fun i h => (hLl i h h).2.2
  refine apart_call (Ll := Ll) (Ml := Ml) (Xl := Xl) b.row b.plo.rds b.wlo.rds b.lvl b.h2l (fun i h => ⟨(hLl i h h).1, (hLl i h h).2.1⟩) (fun i h => ⟨(hMl i h h).1.rds, (hMl i h h).2⟩)
    (fun i => ?_) ⟨fun i h hm => ?_, fun i h c hc hm => ?_, fun i j hi hj hij c hc hm => ?_⟩
  · refine ⟨b.sxl i, ?_⟩
    by_cases hi : i < vl.length
    · have h := (hLl i hi hi).2.1
      exact ⟨by rw [h.len]; exact (b.sxl i).1, h.size⟩
    · rw [hLl0 i hi]; simp
  · have := tvl i h g hm; rw [b.tgg] at this; omega
  · have := tvl i h c hm; rw [b.tpl c hc] at this; omega
  · have h1 := tvl i hi c hc; have h2 := tvl j hj c hm; omega
/-- A new book. -/
theorem Book.fresh {k : H} {tg : Nat → Nat} : Book (k ++ [bookB .nilslice .nilslice .nilslice .nilslice]) (fun c => if c = k.length then 1 else tg c) k.length 0 :=
  ⟨.nilslice, .nilslice, [], [], fun _ => [], ⟨by simp, by simp, .inl ⟨rfl, rfl⟩, .inl ⟨rfl, rfl⟩, by simp [foot], by simp [foot], rfl, by simp, by simp, by simp, by simp⟩, rfl⟩
end Go.Proofs.Ytmbkklobijflkaa.Bk
