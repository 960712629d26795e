/- Link: what lies apart in memory; a letter is delivered, and what tells that it came. -/
import Derived.Test.YtmbkklobijflkaaLinkG
set_option maxRecDepth 100000
set_option linter.unusedVariables false
set_option linter.unusedSimpArgs false
namespace Go.Proofs.Ytmbkklobijflkaa.Lk
open Go Go.Eng F

def loopsAll : SCode → List (List Nat × SCode)
  | .loop l b => (l, b) :: loopsAll b
  | .seq a b => loopsAll a ++ loopsAll b
  | .cond _ a b => loopsAll a ++ loopsAll b
  | .block _ a => loopsAll a
  | .scope a => loopsAll a
  | _ => []
/-- Things that lie apart. -/
structure Sep (k : H) (l : List (List Nat)) : Prop where
  lt : ∀ i c, c ∈ l.getD i [] → c < k.length
  ne : ∀ i j, i ≠ j → ∀ c ∈ l.getD i [], c ∉ l.getD j []
theorem getD_set (l : List (List Nat)) (i j : Nat) (F : List Nat) (h : i < l.length) : (l.set i F).getD j [] = if i = j then F else l.getD j [] := by
  rw [List.getD_eq_getElem?_getD, List.getElem?_set]
  by_cases e : i = j
  · subst e; simp [h]
  · simp [e]
theorem Sep.upd {k k' : H} {l : List (List Nat)} (s : Sep k l) {i : Nat} {F : List Nat} (hi : i < l.length) (hk : k.length ≤ k'.length) (h1 : ∀ c ∈ F, c ∈ l.getD i [] ∨ k.length ≤ c) (h2 : ∀ c ∈ F, c < k'.length) : Sep k' (l.set i F) := by
  refine ⟨fun j c hc => ?_, fun j j' hj c hc hc' => ?_⟩
  · rw [getD_set _ _ _ _ hi] at hc
    split at hc
    · exact h2 c hc
    · exact Nat.lt_of_lt_of_le (s.lt j c hc) hk
  · rw [getD_set _ _ _ _ hi] at hc hc'
    by_cases e1 : i = j
    · subst e1
      rw [if_pos rfl] at hc
      rw [if_neg hj] at hc'
      rcases h1 c hc with h | h
      · exact s.ne i j' hj c h hc'
      · have := s.lt j' c hc'; omega
    · rw [if_neg e1] at hc
      by_cases e2 : i = j'
      · subst e2
        rw [if_pos rfl] at hc'
        rcases h1 c hc' with h | h
        · exact s.ne j i hj c hc h
        · have := s.lt j c hc; omega
      · rw [if_neg e2] at hc'
        exact s.ne j j' hj c hc hc'
theorem Sep.more {k k' : H} {l : List (List Nat)} (s : Sep k l) (hk : k.length ≤ k'.length) : Sep k' l := ⟨fun i c hc => Nat.lt_of_lt_of_le (s.lt i c hc) hk, s.ne⟩
theorem Sep.fresh {k k' : H} {l : List (List Nat)} (s : Sep k l) (hk : k.length ≤ k'.length) {F : List Nat} (h1 : ∀ c ∈ F, k.length ≤ c) (h2 : ∀ c ∈ F, c < k'.length) : Sep k' (l ++ [F]) := by
  have g : ∀ j, (l ++ [F]).getD j [] = if j < l.length then l.getD j [] else if j = l.length then F else [] := by
    intro j
    simp only [List.getD_eq_getElem?_getD]
    by_cases e : j < l.length
    · rw [if_pos e, List.getElem?_append_left e]
    · rw [if_neg e, List.getElem?_append_right (by omega)]
      by_cases e2 : j = l.length
      · subst e2; simp
      · rw [if_neg e2]
        have : 0 < j - l.length := by omega
        rw [List.getElem?_eq_none (by simp; omega)]; rfl
  refine ⟨fun j c hc => ?_, fun j j' hj c hc hc' => ?_⟩
  · rw [g] at hc
    split at hc
    · exact Nat.lt_of_lt_of_le (s.lt j c hc) hk
    · split at hc
      · exact h2 c hc
      · cases hc
  · rw [g] at hc hc'
    split at hc
    · split at hc'
      · exact s.ne j j' hj c hc hc'
      · split at hc'
        · have := s.lt j c hc; have := h1 c hc'; omega
        · cases hc'
    · split at hc
      · split at hc'
        · have := s.lt j' c hc'; have := h1 c hc; omega
        · split at hc'
          · omega
          · cases hc'
      · cases hc
theorem Sep.away {k : H} {l : List (List Nat)} (s : Sep k l) {i j : Nat} (h : i ≠ j) {F G : List Nat} (hF : l.getD i [] = F) (hG : l.getD j [] = G) : ∀ c ∈ F, c ∉ G := by
  subst hF; subst hG; exact s.ne i j h

theorem own_els {h : H} {es : Nat} {v : AV} {L : List (List AV)} (ho : Own h es v L) : elsOf h es v = some L := by
  rcases ho with ⟨rfl, rfl⟩ | ⟨b, c, els, rfl, hb, h1, h2, h3⟩
  · rfl
  · by_cases h0 : L.length = 0
    · have : L = [] := List.length_eq_zero_iff.1 h0
      subst this; simp [elsOf]
    · simp [elsOf, h0, hb, h1, h2]
theorem own_idx {h : H} {es : Nat} {v : AV} {L : List (List AV)} (ho : Own h es v L) {i : Nat} (hi : i < L.length) : ∃ b, evalP (.indexAddr es) [v, .int .i64 (i : Nat)] = some (.ptr b i 0) ∧ rdK i h[b]? = some L[i] := by
  rcases ho with ⟨rfl, rfl⟩ | ⟨b, c, els, rfl, hb, h1, h2, h3⟩
  · simp at hi
  · refine ⟨b, ?_, ?_⟩
    · rw [pP_indexAddr]
      have e1 : (0 : Int) ≤ i := by omega
      have e2 : (i : Int) < (L.length : Nat) := by omega
      simp only [e1, e2, and_self, if_true]
      simp
    · rw [hb, rdK_row, take_get h1 hi, List.getElem?_eq_getElem hi]
/-- An append of many. -/
theorem own_app {h : H} {es : Nat} {v : AV} {L : List (List AV)} (ho : Own h es v L) {x : AV} {X : List (List AV)} (hx : elsOf h es x = some X) (hs : ∀ e ∈ X, ∀ a ∈ e, a.scalar = true) (hlen : L.length + X.length ≤ 4294967296) :
    ∃ v' h', appendV es false v x h = some (v', h') ∧ Own h' es v' (L ++ X) ∧ Chg h h' (foot v) ∧ (∀ c ∈ foot v', c ∈ foot v ∨ h.length ≤ c) := by
  have hsc : (X.all fun e => e.all AV.scalar) = true := by simpa using hs
  by_cases hX : X.length = 0
  · have : X = [] := List.length_eq_zero_iff.1 hX
    subst this
    refine ⟨v, h, ?_, by simpa using ho, Chg.refl _ _, fun c hc => .inl hc⟩
    rcases ho with ⟨rfl, _⟩ | ⟨b, c, els, rfl, _⟩ <;> simp [appendV, evalHeap, hx, appendEls]
  · have hXn : X ≠ [] := by rintro rfl; simp at hX
    rcases ho with ⟨rfl, rfl⟩ | ⟨b, c, els, rfl, hb, h1, h2, h3⟩
    · refine ⟨.slice h.length es 0 X.length X.length false, h ++ [.row es X true true], ?_, .inr ⟨h.length, X.length, X, by simp, by simp, by simp, by simp, by simp⟩, Chg.app _ _ _, fun c hc => .inr (by simp [foot] at hc; omega)⟩
      have : X.length ≤ 4294967296 := by simpa using hlen
      simp only [appendV, evalHeap, hx, hsc, if_true, appendEls, hX, if_false, this, true_or]
    · refine ⟨.slice h.length es 0 (L.length + X.length) (L.length + X.length) false, h.set b .dead ++ [.row es (L ++ X) true true], ?_, .inr ⟨h.length, L.length + X.length, L ++ X, by simp, by simp, List.take_of_length_le (by simp), by simp, by simp⟩, ((Chg.refl _ _).set (.inl (by simp [foot]))).more, fun c hc => .inr (by simp [foot] at hc; omega)⟩
      simp [appendV, evalHeap, hx, appendEls, hX, hXn, hb, h1, h2, hlen]
      exact hs
theorem lts_scalar (o : List Lt) : ∀ e ∈ lts o, ∀ a ∈ e, a.scalar = true := by
  intro e he a ha
  simp only [lts, List.mem_map] at he
  obtain ⟨x, _, rfl⟩ := he
  simp only [Lt.av, List.mem_cons, List.not_mem_nil, or_false] at ha
  rcases ha with rfl | rfl | rfl | rfl | rfl | rfl | rfl | rfl | rfl | rfl | rfl | rfl | rfl | rfl | rfl | rfl | rfl | rfl | rfl | rfl | rfl <;> rfl
theorem pks_scalar (o : List Pk) : ∀ e ∈ pks o, ∀ a ∈ e, a.scalar = true := by
  intro e he a ha
  simp only [pks, List.mem_map] at he
  obtain ⟨x, _, rfl⟩ := he
  simp only [Pk.av, List.mem_cons, List.not_mem_nil, or_false] at ha
  rcases ha with rfl | rfl | rfl | rfl | rfl | rfl | rfl | rfl | rfl | rfl | rfl | rfl | rfl | rfl | rfl | rfl | rfl | rfl | rfl | rfl | rfl | rfl | rfl | rfl | rfl <;> rfl
theorem LinkAt.lt {k : H} {g m : Nat} {v : AV} {s : Ls} (a : LinkAt k g m v s) : ∀ c ∈ g :: m :: foot v, c < k.length := by
  intro c hc
  simp only [List.mem_cons] at hc
  rcases hc with rfl | rfl | hc
  · exact (List.getElem?_eq_some_iff.1 a.gd).1
  · exact (List.getElem?_eq_some_iff.1 a.mp).1
  · exact a.ow.lt c hc
theorem LinkAt.keep' {k k' : H} {g m : Nat} {v : AV} {s : Ls} (a : LinkAt k g m v s) {G : List Nat} (hc : Chg k k' G) (h : ∀ c ∈ g :: m :: foot v, c ∉ G) : LinkAt k' g m v s :=
  a.keep hc (h g (by simp)) (h m (by simp)) (fun c hc => h c (by simp [hc]))
set_option maxHeartbeats 4000000 in
theorem deliver {k : H} {l : List (List Nat)} (sp : Sep k l) {ia ib ir : Nat} (hab : ia ≠ ib) (har : ia ≠ ir) (hbr : ib ≠ ir) (hia : ia < l.length) (hib : ib < l.length) (hir : ir < l.length)
    {ga ma gb mb : Nat} {va vb lr : AV} {A B : Ls} {L : List Lt} (fa : l.getD ia [] = ga :: ma :: foot va) (fb : l.getD ib [] = gb :: mb :: foot vb) (fr : l.getD ir [] = foot lr)
    (aA : LinkAt k ga ma va A) (aB : LinkAt k gb mb vb B) (oR : Own k 21 lr (lts L))
    (hAw : A.waits.length < 4294967296) (hAk : A.kept.length < 4294967295) (hAc : 0 ≤ A.came ∧ A.came < 4611686018427387904) (hBw : B.waits.length < 4294967296) (hBk : B.kept.length < 4294967295) (hBc : 0 ≤ B.came ∧ B.came < 4611686018427387904)
    {p ack : Pk} {o : List Lt} {A' B' : Ls} (hp : p.seq ≤ 9223372036854775807) (hgB : B.got p = (B', o, ack, true)) (hack : ack.seq ≤ 9223372036854775807) (hgA : A.got ack = (A', [], Pk.zero, true)) (hL : L.length + o.length ≤ 4294967296) :
    ∃ vo k1 lr' k2 vo2 k3 va' vb', call fs2 ex2 12 [.ptr gb 0 0, .agg p.av] k = some (.tuple [vo, .agg ack.av, .bool true], k1) ∧
      appendV 21 false lr vo (k1 ++ [.row 25 [ack.av] true true]) = some (lr', k2) ∧ k2[k1.length]? = some (.row 25 [ack.av] true true) ∧
      call fs2 ex2 12 [.ptr ga 0 0, .agg ack.av] k2 = some (.tuple [vo2, .agg Pk.zero.av, .bool true], k3) ∧
      LinkAt k3 ga ma va' A' ∧ LinkAt k3 gb mb vb' B' ∧ Own k3 21 lr' (lts (L ++ o)) ∧ Chg k k3 (l.getD ia [] ++ l.getD ib [] ++ l.getD ir []) ∧
      Sep k3 (((l.set ib (gb :: mb :: foot vb')).set ir (foot lr')).set ia (ga :: ma :: foot va')) := by
  obtain ⟨⟨w1, k1⟩, e12, vo, vb', rfl, aB1, oV, c1, fb1, fv⟩ := got_call aB hBw hBk hBc p hp
  rw [hgB] at e12 aB1 oV
  simp only at aB1 oV c1 fv
  rw [← fb] at c1
  have aA1 := aA.keep' c1 (by rw [← fa]; exact sp.ne ia ib hab)
  have oR1 := oR.keep c1 (by rw [← fr]; exact sp.ne ir ib hbr.symm)
  have cK : Chg k1 (k1 ++ [.row 25 [ack.av] true true]) [] := Chg.app _ _ _
  have aA1' := aA1.keep' cK (by simp)
  have aB1' := aB1.keep' cK (by simp)
  have oR1' := oR1.keep cK (by simp)
  have oV' := oV.keep cK (by simp)
  have l1 := c1.1
  have sp1 : Sep (k1 ++ [.row 25 [ack.av] true true]) (l.set ib (gb :: mb :: foot vb')) := sp.upd hib (by simp; omega) (fun c hc => by
    left; rw [fb]
    simp only [List.mem_cons] at hc ⊢
    rcases hc with h | h | h
    · simp [h]
    · simp [h]
    · simp [fb1 c h]) (fun c hc => by have := aB1.lt c hc; simp; omega)
  obtain ⟨lr', k2, e9, oR2, c2, fr2⟩ := own_app oR1' (own_els oV') (lts_scalar _) (by simp [lts]; omega)
  have f1 : (l.set ib (gb :: mb :: foot vb')).getD ir [] = foot lr := by rw [getD_set _ _ _ _ hib, if_neg hbr]; exact fr
  have f2 : (l.set ib (gb :: mb :: foot vb')).getD ia [] = ga :: ma :: foot va := by rw [getD_set _ _ _ _ hib, if_neg hab.symm]; exact fa
  have f3 : (l.set ib (gb :: mb :: foot vb')).getD ib [] = gb :: mb :: foot vb' := by rw [getD_set _ _ _ _ hib, if_pos rfl]
  have aA2 := aA1'.keep' c2 (sp1.away har f2 f1)
  have aB2 := aB1'.keep' c2 (sp1.away hbr f3 f1)
  have l2 := c2.1
  simp at l2
  have hrow : k2[k1.length]? = some (.row 25 [ack.av] true true) := c2.2 _ _ (fun h => by
    have := sp.lt ir k1.length (by rw [fr]; exact h)
    omega) (by simp)
  have sp2 : Sep k2 ((l.set ib (gb :: mb :: foot vb')).set ir (foot lr')) := sp1.upd (by simpa using hir) c2.1 (fun c hc => by rw [f1]; exact fr2 c hc) oR2.lt
  obtain ⟨⟨w3, k3⟩, e12', vo2, va', rfl, aA3, oV2, c3, fa3, fv2⟩ := got_call aA2 hAw hAk hAc ack hack
  rw [hgA] at e12' aA3 oV2
  simp only at aA3 oV2 c3 fv2
  have l3 := c3.1
  have g1 : ((l.set ib (gb :: mb :: foot vb')).set ir (foot lr')).getD ia [] = ga :: ma :: foot va := by rw [getD_set _ _ _ _ (by simpa using hir), if_neg har.symm]; exact f2
  have g2 : ((l.set ib (gb :: mb :: foot vb')).set ir (foot lr')).getD ib [] = gb :: mb :: foot vb' := by rw [getD_set _ _ _ _ (by simpa using hir), if_neg hbr.symm]; exact f3
  have g3 : ((l.set ib (gb :: mb :: foot vb')).set ir (foot lr')).getD ir [] = foot lr' := by rw [getD_set _ _ _ _ (by simpa using hir), if_pos rfl]
  refine ⟨vo, k1, lr', k2, vo2, k3, va', vb', e12, e9, hrow, e12', aA3, aB2.keep' c3 (sp2.away hab.symm g2 g1), ?_, ?_, ?_⟩
  · have := oR2.keep c3 (sp2.away har.symm g3 g1)
    simpa [lts] using this
  · have t1 : Chg k k1 (l.getD ia [] ++ l.getD ib [] ++ l.getD ir []) := c1.mono (by intro c hc; simp only [List.mem_append]; exact .inl (.inr hc))
    refine ((t1.trans cK (by simp)).trans c2 (fun c hc => .inl (by rw [fr]; simp only [List.mem_append]; exact .inr hc))).trans c3 (fun c hc => .inl (by rw [fa]; simp only [List.mem_append]; exact .inl (.inl hc)))
  · refine sp2.upd (by simpa using hia) c3.1 (fun c hc => ?_) aA3.lt
    left; rw [g1]
    simp only [List.mem_cons] at hc ⊢
    rcases hc with h | h | h
    · simp [h]
    · simp [h]
    · simp [fa3 c h]
end Go.Proofs.Ytmbkklobijflkaa.Lk
