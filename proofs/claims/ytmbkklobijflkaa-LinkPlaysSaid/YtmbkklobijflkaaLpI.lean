/- Link and the document's link, side by side: plain. -/
import Derived.Test.YtmbkklobijflkaaLpP
set_option maxRecDepth 100000
set_option linter.unusedVariables false
set_option linter.unusedSimpArgs false
namespace Go.Proofs.Ytmbkklobijflkaa.Lp
open Go Go.Eng F Lk Bk BkI

theorem _root_.Go.Proofs.Ytmbkklobijflkaa.Bk.RdS.stp0 {T : Nat → Prop} {k k' : H} {tg tg' : Nat → Nat} {es : Nat} {v : AV} {L : List (List AV)} (o : RdS k es v L) (s : Stp T k k' tg tg') (h : ∀ c ∈ foot0 v, ¬ T (tg c)) : RdS k' es v L := by
  obtain ⟨F, c, hF⟩ := s.chg
  exact o.keep0 c (fun z hz => hF z (h z hz))
/-- New tags. -/
theorem stpNew {T : Nat → Prop} {k k' : H} {F : List Nat} (c : Chg k k' F) (tg nt : Nat → Nat) (h : ∀ z ∈ F, z < k.length → T (tg z)) : Stp T k k' tg (fun c => if c < k.length then tg c else nt c) :=
  Stp.of c h (fun z hz => by simp [hz])
/-- Letters that are alike: the same lists, which nobody turns. -/
structure Al (k : H) (tg : Nat → Nat) (x y : Lv) : Prop where
  eq : x.x = y.x
  its : ∃ X1 X2 : List It, RdS k 2 x.s1.av (its X1) ∧ RdS k 2 x.s2.av (its X2) ∧ RdS k 2 y.s1.av (its X1) ∧ RdS k 2 y.s2.av (its X2) ∧ X1.length * 48 ≤ 281474976710656 ∧ X2.length * 48 ≤ 281474976710656
  t1 : ∀ c ∈ foot0 x.s1.av, tg c = 6
  t2 : ∀ c ∈ foot0 x.s2.av, tg c = 6
  t3 : ∀ c ∈ foot0 y.s1.av, tg c = 6
  t4 : ∀ c ∈ foot0 y.s2.av, tg c = 6
theorem Al.stp {T : Nat → Prop} {k k' : H} {tg tg' : Nat → Nat} {x y : Lv} (a : Al k tg x y) (s : Stp T k k' tg tg') (h6 : ¬ T 6) : Al k' tg' x y := by
  obtain ⟨X1, X2, h1, h2, h3, h4, h5⟩ := a.its
  have f : ∀ {v : AV} {L : List (List AV)}, RdS k 2 v L → (∀ c ∈ foot0 v, tg c = 6) → RdS k' 2 v L ∧ ∀ c ∈ foot0 v, tg' c = 6 := fun o h => ⟨o.stp0 s (fun c hc => by rw [h c hc]; exact h6), fun c hc => (s.old c (o.lt0 c hc)).trans (h c hc)⟩
  exact ⟨a.eq, ⟨X1, X2, (f h1 a.t1).1, (f h2 a.t2).1, (f h3 a.t3).1, (f h4 a.t4).1, h5⟩, (f h1 a.t1).2, (f h2 a.t2).2, (f h3 a.t3).2, (f h4 a.t4).2⟩
theorem reps_cons {k : H} {c : List AV} {x : BkL.Ltr} {L : List (List AV)} {X : List BkL.Ltr} (h : BkL.RepL k c x) (r : BkL.Reps k L X) : BkL.Reps k (c :: L) (x :: X) :=
  ⟨by simp [r.len], fun i h1 h2 => by
    cases i with
    | zero => exact h
    | succ i => exact r.at_ i (by simpa using h1) (by simpa using h2)⟩
theorem lp2_reps {k : H} {tg : Nat → Nat} {l m : List Lv} (h : Lp2 (Al k tg) l m) : ∃ X : List BkL.Ltr, BkL.Reps k (lts l) X ∧ BkL.Reps k (lts m) X ∧ (∀ x ∈ X, x.small) ∧ X.length = l.length ∧ (∀ e ∈ lts l, ∀ a ∈ e, ∀ c ∈ foot0 a, tg c = 6) ∧ ∀ e ∈ lts m, ∀ a ∈ e, ∀ c ∈ foot0 a, tg c = 6 := by
  induction h with
  | nil => exact ⟨[], BkL.reps_nil _, BkL.reps_nil _, by simp, rfl, by simp [lts], by simp [lts]⟩
  | @cons a b l m h _ ih =>
    obtain ⟨X, h1, h2, h3, h4, h5, h6⟩ := ih
    obtain ⟨X1, X2, i1, i2, i3, i4, i5, i6⟩ := h.its
    have e : lv2 b X1 X2 = lv2 a X1 X2 := by unfold lv2; rw [h.eq]
    have rb := lv_rep i3 i4
    rw [e] at rb
    refine ⟨lv2 a X1 X2 :: X, reps_cons (lv_rep i1 i2) h1, reps_cons rb h2, ?_, by simp [h4], ?_, ?_⟩
    · intro x hx
      simp only [List.mem_cons] at hx
      rcases hx with rfl | hx
      · exact ⟨i5, i6⟩
      · exact h3 x hx
    · intro e he
      simp only [lts, List.map_cons, List.mem_cons] at he
      rcases he with rfl | he
      · intro z hz c hc
        simp only [Lv.av, List.mem_cons, List.not_mem_nil, or_false] at hz
        rcases hz with rfl | rfl | rfl | rfl | rfl | rfl | rfl | rfl | rfl | rfl | rfl | rfl | rfl | rfl | rfl | rfl | rfl | rfl | rfl | rfl | rfl
        all_goals first | exact h.t1 c hc | exact h.t2 c hc | simp [foot0] at hc
      · exact h5 e he
    · intro e he
      simp only [lts, List.map_cons, List.mem_cons] at he
      rcases he with rfl | he
      · intro z hz c hc
        simp only [Lv.av, List.mem_cons, List.not_mem_nil, or_false] at hz
        rcases hz with rfl | rfl | rfl | rfl | rfl | rfl | rfl | rfl | rfl | rfl | rfl | rfl | rfl | rfl | rfl | rfl | rfl | rfl | rfl | rfl | rfl
        all_goals first | exact h.t3 c hc | exact h.t4 c hc | simp [foot0] at hc
      · exact h6 e he
structure Sm (R : Lv → Lv → Prop) (s : Ls) (q : Rs) : Prop where
  me : q.me = s.me
  peer : q.peer = s.peer
  now : q.now = s.now
  out : q.sent = s.out
  O : q.O = s.waits
  came : q.came = s.came
  kept : Kp R s.kept q.P
theorem Sm.mono {R S : Lv → Lv → Prop} {s : Ls} {q : Rs} (h : Sm R s q) (hs : ∀ x y, R x y → S x y) : Sm S s q := ⟨h.me, h.peer, h.now, h.out, h.O, h.came, h.kept.mono hs⟩
theorem Sm.may {R : Lv → Lv → Prop} {s : Ls} {q : Rs} (h : Sm R s q) (p : Pv) : q.may p = s.may p := by simp only [Rs.may, Ls.may, h.me, h.peer, h.out]
theorem Sm.keep {R : Lv → Lv → Prop} {s : Ls} {q : Rs} (h : Sm R s q) {p : Pv} {z : Lv} (hz : R z p.y) : Kp R (s.keep p z) (q.keep p) := by
  have hn := h.kept.none p.seq
  unfold Ls.keep Rs.keep
  rw [h.came]
  cases hf : findK p.seq s.kept with
  | some r =>
    have : idxP p.seq q.P ≠ none := fun h => by rw [hn.2 h] at hf; cases hf
    obtain ⟨i, hi⟩ := Option.ne_none_iff_exists'.1 this
    simp [hi, h.kept]
  | none =>
    rw [hn.1 hf]
    by_cases h1 : s.came < p.seq <;> by_cases h2 : p.seq - s.came ≤ 64 <;> simp [h1, h2, h.kept]
    exact h.kept.snoc rfl hz
theorem Sm.got {R : Lv → Lv → Prop} {s : Ls} {q : Rs} (h : Sm R s q) {p : Pv} {z : Lv} (hz : R z p.y) : Sm R (s.got p z).1 (q.got p).1 ∧ Lp2 R (s.got p z).2.1 (q.got p).2.1 ∧ (q.got p).2.2 = (s.got p z).2.2 := by
  unfold Ls.got Rs.got
  rw [h.may]
  split
  · exact ⟨h, .nil, rfl⟩
  · split
    · exact ⟨⟨h.me, h.peer, h.now, h.out, by rw [h.O], h.came, h.kept⟩, .nil, rfl⟩
    · have hk := h.keep hz
      obtain ⟨d1, d2, d3⟩ := hk.drain (s.keep p z).length s.came
      rw [hk.len] at d1 d2 d3
      rw [h.came, h.me, h.peer, h.O, hk.len]
      exact ⟨⟨rfl, rfl, h.now, h.out, rfl, d1.symm, d2⟩, d3, by simp only [d1]⟩
/-! Bounds. -/
structure Bd (n : Nat) (s : Ls) : Prop where
  now : 0 ≤ s.now ∧ s.now ≤ n
  out : 0 ≤ s.out ∧ s.out ≤ n
  waits : s.waits.length ≤ n
  came : 0 ≤ s.came ∧ s.came + s.kept.length ≤ n
  at_ : ∀ w ∈ s.waits, 0 ≤ w.at_ ∧ w.at_ ≤ n
theorem Bd.more {n : Nat} {s : Ls} (b : Bd n s) : Bd (n + 1) s :=
  ⟨by have := b.now; omega, by have := b.out; omega, by have := b.waits; omega, by have := b.came; omega, fun w hw => by have := b.at_ w hw; omega⟩
theorem Bd.send {n : Nat} {s : Ls} (b : Bd n s) (hn : n ≤ 1000) (x : Lt) : Bd (n + 1) (s.send x) := by
  have ho := b.out
  have hw : IntKind.i64.wrap (s.out + 1) = s.out + 1 := wrap_i64 (by omega) (by omega)
  unfold Ls.send
  rw [hw]
  refine ⟨by have := b.now; simp only; omega, by simp only; omega, by have := b.waits; simp; omega, by have := b.came; simp only; omega, fun w hw => ?_⟩
  simp only [List.mem_append, List.mem_singleton] at hw
  rcases hw with hw | rfl
  · have := b.at_ w hw; omega
  · have := b.now; simp only; omega
theorem Bd.quiet {n : Nat} {s : Ls} (b : Bd n s) : Bd (n + 1) { s with now := s.now + 1 } :=
  ⟨by have := b.now; simp only; omega, by have := b.out; simp only; omega, by have := b.waits; simp only; omega, by have := b.came; simp only; omega, fun w hw => by have := b.at_ w hw; omega⟩
theorem Bd.again {n : Nat} {s : Ls} (b : Bd n s) : Bd (n + 1) { s with now := s.now + 1, waits := s.waits.map (Sn.anew (s.now + 1)) } := by
  refine ⟨by have := b.now; simp only; omega, by have := b.out; simp only; omega, by have := b.waits; simp; omega, by have := b.came; simp only; omega, fun w hw => ?_⟩
  simp only [List.mem_map] at hw
  obtain ⟨w, _, rfl⟩ := hw
  have := b.now
  simp only [Sn.anew]
  omega
theorem drain_len : ∀ (n : Nat) (c : Int) (l : List (Int × Lv)), (drain n c l).1 + (drain n c l).2.1.length = c + l.length ∧ (drain n c l).2.2.length ≤ l.length ∧ c ≤ (drain n c l).1
  | 0, c, l => ⟨rfl, by simp [drain], Int.le_refl _⟩
  | n + 1, c, l => by
    cases hf : findK (c + 1) l with
    | none => rw [drain_none hf]; exact ⟨rfl, by simp, Int.le_refl _⟩
    | some r =>
      obtain ⟨i, x⟩ := r
      obtain ⟨h1, h2, h3⟩ := drain_len n (c + 1) (l.eraseIdx i)
      have hi := findK_lt hf
      have hle : (l.eraseIdx i).length + 1 = l.length := by rw [List.length_eraseIdx_of_lt hi]; omega
      simp only [drain, hf, List.length_cons]
      omega
theorem keep_len (s : Ls) (p : Pv) (z : Lv) : (s.keep p z).length ≤ s.kept.length + 1 := by
  unfold Ls.keep; split <;> simp
theorem Bd.got {n : Nat} {s : Ls} (b : Bd n s) (p : Pv) (z : Lv) : Bd (n + 1) (s.got p z).1 ∧ (s.got p z).2.1.length ≤ n + 1 := by
  have hl : (later p.ack s.waits).length ≤ s.waits.length := List.length_filter_le _ _
  have hm : ∀ w ∈ later p.ack s.waits, w ∈ s.waits := fun w hw => (List.mem_filter.1 hw).1
  unfold Ls.got
  split
  · exact ⟨b.more, by simp⟩
  · split
    · exact ⟨⟨by have := b.now; simp only; omega, by have := b.out; simp only; omega, by have := b.waits; simp only; omega, by have := b.came; simp only; omega, fun w hw => by have := b.at_ w (hm w hw); omega⟩, by simp⟩
    · obtain ⟨d1, d2, d3⟩ := drain_len (s.keep p z).length s.came (s.keep p z)
      have hk := keep_len s p z
      have := b.came
      exact ⟨⟨by have := b.now; simp only; omega, by have := b.out; simp only; omega, by have := b.waits; simp only; omega, by simp only; omega, fun w hw => by have := b.at_ w (hm w hw); omega⟩, by simp only; omega⟩
end Go.Proofs.Ytmbkklobijflkaa.Lp
