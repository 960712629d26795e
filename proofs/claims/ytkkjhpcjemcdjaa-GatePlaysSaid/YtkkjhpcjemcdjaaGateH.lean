/- Gate: both gates side by side. -/
import Derived.Test.YtkkjhpcjemcdjaaGateG
set_option maxRecDepth 100000
set_option linter.unusedVariables false
set_option linter.unusedSimpArgs false
namespace Go.Proofs.Ytkkjhpcjemcdjaa.Gt
open Go Go.Eng F

/-- Two gates, and blocks that stand. -/
def Tw (k : H) (K : List (Nat × Blk)) (g r : Nat) (s : Bool) (a b : Int) (P : List Pt) (S : Bool) (A B : Int) (Q : List Pt) : Prop :=
  ∃ v u, GateAt k g v s a b P ∧ GateAt k r u S A B Q ∧ g ≠ r ∧ r ∉ foot v ∧ g ∉ foot u ∧ (∀ c ∈ foot v, c ∉ foot u) ∧
    ∀ p ∈ K, k[p.1]? = some p.2 ∧ p.1 ≠ g ∧ p.1 ≠ r ∧ p.1 ∉ foot v ∧ p.1 ∉ foot u
section
variable {k : H} {K : List (Nat × Blk)} {g r : Nat} {s S : Bool} {a b A B : Int} {P Q : List Pt}
theorem Tw.symm (t : Tw k K g r s a b P S A B Q) : Tw k K r g S A B Q s a b P := by
  obtain ⟨v, u, h1, h2, h3, h4, h5, h6, h7⟩ := t
  exact ⟨u, v, h2, h1, h3.symm, h5, h4, fun c hc hv => h6 c hv hc, fun p hp => ⟨(h7 p hp).1, (h7 p hp).2.2.1, (h7 p hp).2.1, (h7 p hp).2.2.2.2, (h7 p hp).2.2.2.1⟩⟩
theorem Tw.get (t : Tw k K g r s a b P S A B Q) {c : Nat} {x : Blk} (hp : (c, x) ∈ K) : k[c]? = some x := by
  obtain ⟨v, u, h1, h2, h3, h4, h5, h6, h7⟩ := t
  exact (h7 _ hp).1
/-- One gate is turned. -/
theorem Tw.step {s2 : Bool} {a2 b2 : Int} {P2 : List Pt} (t : Tw k K g r s a b P S A B Q)
    {X : H → Prop} (hx : ∀ v, GateAt k g v s a b P → ∃ k2 v2, X k2 ∧ GateAt k2 g v2 s2 a2 b2 P2 ∧ Chg k k2 (g :: foot v) ∧ ∀ c ∈ foot v2, k.length ≤ c ∨ c ∈ foot v) :
    ∃ k2, X k2 ∧ Tw k2 K g r s2 a2 b2 P2 S A B Q := by
  obtain ⟨v, u, h1, h2, h3, h4, h5, h6, h7⟩ := t
  obtain ⟨k2, v2, x2, g2, ch, ft⟩ := hx v h1
  have hr : r < k.length := (List.getElem?_eq_some_iff.1 h2.1).1
  refine ⟨k2, x2, v2, u, g2, ⟨ch.2 r _ (by simp only [List.mem_cons]; rintro (h | h); exact h3 h.symm; exact h4 h) h2.1, h2.2.1.keep ch (fun c hc => ?_), h2.2.2⟩, h3, fun h => ?_, h5, fun c hc hu => ?_, fun p hp => ?_⟩
  · simp only [List.mem_cons]; rintro (rfl | h)
    · exact h5 hc
    · exact h6 c h hc
  · rcases ft r h with h | h
    · omega
    · exact h4 h
  · rcases ft c hc with h | h
    · have := h2.2.1.lt c hu; omega
    · exact h6 c h hu
  · obtain ⟨q1, q2, q3, q4, q5⟩ := h7 p hp
    have hl : p.1 < k.length := (List.getElem?_eq_some_iff.1 q1).1
    refine ⟨ch.2 p.1 _ (by simp only [List.mem_cons]; rintro (h | h); exact q2 h; exact q4 h) q1, q2, q3, fun h => ?_, q5⟩
    rcases ft p.1 h with h | h
    · omega
    · exact q4 h
theorem Tw.app (t : Tw k K g r s a b P S A B Q) (l : H) : Tw (k ++ l) K g r s a b P S A B Q := by
  obtain ⟨v, u, h1, h2, h3, h4, h5, h6, h7⟩ := t
  exact ⟨v, u, ⟨get_app h1.1, own_keep1 h1.2.1 l, h1.2.2⟩, ⟨get_app h2.1, own_keep1 h2.2.1 l, h2.2.2⟩, h3, h4, h5, h6, fun p hp => ⟨get_app (h7 p hp).1, (h7 p hp).2⟩⟩
theorem Tw.new (t : Tw k K g r s a b P S A B Q) (x : Blk) : Tw (k ++ [x]) ((k.length, x) :: K) g r s a b P S A B Q := by
  obtain ⟨v, u, h1, h2, h3, h4, h5, h6, h7⟩ := t.app [x]
  obtain ⟨v', u', g1, g2, g3, g4, g5, g6, g7⟩ := t
  have e1 : v = v' := by
    have := h1.1; rw [List.getElem?_append_left (List.getElem?_eq_some_iff.1 g1.1).1, g1.1] at this; cases this; rfl
  have e2 : u = u' := by
    have := h2.1; rw [List.getElem?_append_left (List.getElem?_eq_some_iff.1 g2.1).1, g2.1] at this; cases this; rfl
  subst e1; subst e2
  refine ⟨v, u, h1, h2, h3, h4, h5, h6, fun p hp => ?_⟩
  rcases List.mem_cons.1 hp with rfl | hp
  · have l1 := (List.getElem?_eq_some_iff.1 g1.1).1
    have l2 := (List.getElem?_eq_some_iff.1 g2.1).1
    refine ⟨by simp, by simp; omega, by simp; omega, fun h => ?_, fun h => ?_⟩
    · have := g1.2.1.lt _ h; simp at this
    · have := g2.2.1.lt _ h; simp at this
  · exact h7 p hp
theorem Tw.less {K' : List (Nat × Blk)} (t : Tw k K g r s a b P S A B Q) (h : ∀ p ∈ K', p ∈ K) : Tw k K' g r s a b P S A B Q := by
  obtain ⟨v, u, h1, h2, h3, h4, h5, h6, h7⟩ := t
  exact ⟨v, u, h1, h2, h3, h4, h5, h6, fun p hp => h7 p (h p hp)⟩
theorem tw_freeze (t : Tw k K g r s a b P S A B Q) (c d : Int) : ∃ k2, call fs1 ex1 13 [.ptr g 0 0, .agg [.int .u64 c, .int .u64 d]] k = some (.bool !s, k2) ∧ Tw k2 K g r true (if s then a else c) (if s then b else d) P S A B Q := by
  refine t.step fun v hg => ?_
  have e := freeze_call hg.1 c d
  cases s
  · exact ⟨_, v, e, ⟨get_app (get_set_same hg.1), (hg.2.1.keep (F := [g]) ((Chg.refl _ _).set (.inl (by simp))).more (by intro c hc; simp; rintro rfl; exact hg.2.2 hc)), hg.2.2⟩, ((Chg.refl _ _).set (.inl (by simp))).more, fun c hc => .inr hc⟩
  · exact ⟨_, v, e, ⟨get_app hg.1, own_keep1 hg.2.1 _, hg.2.2⟩, Chg.app _ _ _, fun c hc => .inr hc⟩
theorem tw_thaw (t : Tw k K g r s a b P S A B Q) : ∃ k2, call fs1 ex1 15 [.ptr g 0 0] k = some (.bool s, k2) ∧ Tw k2 K g r false (if s then 0 else a) (if s then 0 else b) P S A B Q := by
  refine t.step fun v hg => ?_
  have e := thaw_call hg.1
  cases s
  · exact ⟨_, v, e, ⟨hg.1, hg.2.1, hg.2.2⟩, Chg.refl _ _, fun c hc => .inr hc⟩
  · exact ⟨_, v, e, ⟨get_set_same hg.1, (hg.2.1.keep (F := [g]) ((Chg.refl _ _).set (.inl (by simp))) (by intro c hc; simp; rintro rfl; exact hg.2.2 hc)), hg.2.2⟩, ((Chg.refl _ _).set (.inl (by simp))), fun c hc => .inr hc⟩
theorem tw_arc (t : Tw k K g r s a b P S A B Q) : ∃ k2, call fs1 ex1 14 [.ptr g 0 0] k = some (.tuple [.agg [.int .u64 a, .int .u64 b], .bool s], k2) ∧ Tw k2 K g r s a b P S A B Q := by
  refine t.step fun v hg => ?_
  exact ⟨_, v, arc_call hg.1, ⟨get_app hg.1, own_keep1 hg.2.1 _, hg.2.2⟩, Chg.app _ _ _, fun c hc => .inr hc⟩
theorem tw_point (t : Tw k K g r s a b P S A B Q) (hlen : P.length < 4294967296) (c d n : Int) : ∃ k2, call fs1 ex1 8 [.ptr g 0 0, .agg [.int .u64 c, .int .u64 d], .int .i64 n] k = some (.tuple [], k2) ∧ Tw k2 K g r s a b (P ++ [⟨c, d, n, 0⟩]) S A B Q := by
  refine t.step fun v hg => ?_
  obtain ⟨⟨w, k2⟩, e, rfl, v', h1, h2, h3⟩ := point_call hg hlen c d n
  exact ⟨k2, v', e, h1, h2, fun c hc => .inl (h3 c hc)⟩
theorem tw_rpoint (t : Tw k K g r s a b P S A B Q) (hlen : P.length < 4294967296) (c d n : Int) : ∃ k2, call fs1 ex1 17 [.ptr g 0 0, .agg [.int .u64 c, .int .u64 d], .int .i64 n] k = some (.tuple [], k2) ∧ Tw k2 K g r s a b (P ++ [⟨c, d, n, 0⟩]) S A B Q := by
  refine t.step fun v hg => ?_
  obtain ⟨⟨w, k2⟩, e, rfl, v', h1, h2, h3⟩ := rpoint_call hg hlen c d n
  exact ⟨k2, v', e, h1, h2, fun c hc => .inl (h3 c hc)⟩
theorem tw_tick (t : Tw k K g r s a b P S A B Q) (hlen : P.length < 4294967296) (hold : ∀ p ∈ P, 0 ≤ p.old ∧ p.old < 40) : ∃ k2, call fs1 ex1 9 [.ptr g 0 0] k = some (.tuple [], k2) ∧ Tw k2 K g r s a b (tick P) S A B Q := by
  refine t.step fun v hg => ?_
  obtain ⟨⟨w, k2⟩, e, k3, v', hr, h1, h2, h3⟩ := tick_call hg hlen hold
  cases hr
  exact ⟨_, v', e, h1, h2, fun c hc => .inr (h3 c hc)⟩
theorem tw_rtick (t : Tw k K g r s a b P S A B Q) (hlen : P.length < 4294967296) (hold : ∀ p ∈ P, 0 ≤ p.old ∧ p.old < 40) : ∃ k2, call fs1 ex1 18 [.ptr g 0 0] k = some (.tuple [], k2) ∧ Tw k2 K g r s a b (tick P) S A B Q := by
  refine t.step fun v hg => ?_
  obtain ⟨⟨w, k2⟩, e, k3, v', hr, h1, h2, h3⟩ := rtick_call hg hlen hold
  cases hr
  exact ⟨_, v', e, h1, h2, fun c hc => .inl (h3 c hc)⟩
theorem tw_where (t : Tw k K g r s a b P S A B Q) (hlen : P.length < 4294967296) (x : Int) : ∃ k2, call fs1 ex1 10 [.ptr g 0 0, .int .u64 x] k = some (ansOf (lastIn x P), k2) ∧ Tw k2 K g r s a b P S A B Q := by
  refine t.step fun v hg => ?_
  obtain ⟨⟨w, k2⟩, e, h1, k', h2⟩ := where_call hg hlen x
  cases h1; cases h2
  exact ⟨_, v, e, ⟨get_app hg.1, own_keep1 hg.2.1 _, hg.2.2⟩, Chg.app _ _ _, fun c hc => .inr hc⟩
theorem tw_rwhere (t : Tw k K g r s a b P S A B Q) (hlen : P.length < 4294967296) (x : Int) : ∃ k2, call fs1 ex1 19 [.ptr g 0 0, .int .u64 x] k = some (ansOf (lastIn x P), k2) ∧ Tw k2 K g r s a b P S A B Q := by
  refine t.step fun v hg => ?_
  obtain ⟨⟨w, k2⟩, e, h1, k', h2⟩ := rwhere_call hg hlen x
  cases h1; cases h2
  exact ⟨_, v, e, ⟨get_app hg.1, own_keep1 hg.2.1 _, hg.2.2⟩, Chg.app _ _ _, fun c hc => .inr hc⟩
theorem tw_frozen (t : Tw k K g r s a b P S A B Q) (x : Int) : call fs1 ex1 12 [.ptr g 0 0, .int .u64 x] k = some (.bool (s && inA a b x), k) := by
  obtain ⟨v, u, h1, h2, h3⟩ := t
  exact frozen_call h1.1 x
theorem tw_rfrozen (t : Tw k K g r s a b P S A B Q) (x : Int) : call fs1 ex1 20 [.ptr g 0 0, .int .u64 x] k = some (.bool (s && inA a b x), k) := by
  obtain ⟨v, u, h1, h2, h3⟩ := t
  exact rfrozen_call h1.1 x
theorem tw_points (t : Tw k K g r s a b P S A B Q) : call fs1 ex1 16 [.ptr g 0 0] k = some (.int .i64 P.length, k) := by
  obtain ⟨v, u, h1, h2, h3⟩ := t
  exact points_call h1
theorem own_len {h : H} {es : Nat} {v : AV} {L : List (List AV)} (ho : Own h es v L) : evalP .lenSl [v] = some (.int .i64 L.length) := by
  rcases ho with ⟨rfl, rfl⟩ | ⟨b, c, els, rfl, _⟩
  · rfl
  · rw [pP_lenSl]
theorem own_same {h : H} {es : Nat} {v : AV} {L : List (List AV)} (ho : Own h es v L) : AV.same v v = true := by
  rcases ho with ⟨rfl, rfl⟩ | ⟨b, c, els, rfl, _⟩
  · rfl
  · simp [AV.same]
/-- The one gate as it lies there; it may be written. -/
theorem tw_read (t : Tw k K g r s a b P S A B Q) : ∃ v, k[g]? = some (.row 4 [[.bool s, .int .u64 a, .int .u64 b, v]] true true) ∧ (evalP .lenSl [v] = some (.int .i64 P.length) ∧ AV.same v v = true) ∧
    ∀ s2 a2 b2, Tw (k.set g (.row 4 [[.bool s2, .int .u64 a2, .int .u64 b2, v]] true true)) K g r s2 a2 b2 P S A B Q := by
  obtain ⟨v, u, h1, h2, h3, h4, h5, h6, h7⟩ := t
  have hl := own_len h1.2.1
  refine ⟨v, h1.1, ⟨by simpa [avs] using hl, own_same h1.2.1⟩, fun s2 a2 b2 => ⟨v, u, ⟨get_set_same h1.1, h1.2.1.keep (F := [g]) ((Chg.refl _ _).set (.inl (by simp))) (by intro c hc; simp; rintro rfl; exact h1.2.2 hc), h1.2.2⟩, ⟨(List.getElem?_set_ne h3).trans h2.1, h2.2.1.keep (F := [g]) ((Chg.refl _ _).set (.inl (by simp))) (by intro c hc; simp; rintro rfl; exact h5 hc), h2.2.2⟩, h3, h4, h5, h6, fun p hp => ⟨(List.getElem?_set_ne (fun e => (h7 p hp).2.1 e.symm)).trans (h7 p hp).1, (h7 p hp).2⟩⟩⟩
end
end Go.Proofs.Ytkkjhpcjemcdjaa.Gt
