/- Link: what one end has sent and the other one has got, in plain Lean. -/
import Derived.Test.YtmbkklobijflkaaLinkF
set_option maxRecDepth 100000
set_option linter.unusedVariables false
set_option linter.unusedSimpArgs false
namespace Go.Proofs.Ytmbkklobijflkaa.Lk
open Go Go.Eng F

/-- Few numbers lie in a small range. -/
theorem pigeon : ∀ (d : Nat) (c : Int) (l : List Int), l.Nodup → (∀ a ∈ l, c < a ∧ a ≤ c + d) → l.length ≤ d
  | 0, c, l, _, h => by
    cases l with
    | nil => simp
    | cons a l => have := h a (by simp); omega
  | d + 1, c, l, hn, h => by
    by_cases hm : (c + d + 1) ∈ l
    · have h1 := pigeon d c (l.erase (c + d + 1)) (hn.erase _) (fun a ha => by
        rw [hn.mem_erase_iff] at ha
        have := h a ha.2
        have := ha.1
        omega)
      rw [List.length_erase_of_mem hm] at h1
      omega
    · have h1 := pigeon d c l hn (fun a ha => by
        have := h a ha
        have : a ≠ c + d + 1 := by rintro rfl; exact hm ha
        omega)
      omega
theorem findK_in {a : Int} : ∀ {K : List (Int × Lt)} {i : Nat} {y : Lt}, findK a K = some (i, y) → (a, y) ∈ K
  | [], i, y, h => by simp [findK] at h
  | p :: K, i, y, h => by
    unfold findK at h
    split at h
    · rename_i ha
      cases h; subst ha; simp
    · cases h2 : findK a K with
      | none => rw [h2] at h; cases h
      | some r =>
        rw [h2] at h
        cases h
        have := findK_in (K := K) (i := r.1) (y := r.2) h2
        simp [this]
theorem findK_no {a : Int} : ∀ {K : List (Int × Lt)}, findK a K = none ↔ ∀ p ∈ K, p.1 ≠ a
  | [] => by simp [findK]
  | p :: K => by
    unfold findK
    by_cases h : a = p.1
    · simp [h]
    · have h' : p.1 ≠ a := fun e => h e.symm
      rw [if_neg h, Option.map_eq_none_iff, findK_no]
      simp [h']
theorem erase_key {a : Int} : ∀ {K : List (Int × Lt)} {i : Nat} {y : Lt}, findK a K = some (i, y) → (K.map (·.1)).Nodup → (∀ p ∈ K.eraseIdx i, p.1 ≠ a) ∧ ((K.eraseIdx i).map (·.1)).Nodup
  | [], i, y, h, _ => by simp [findK] at h
  | p :: K, i, y, h, hn => by
    simp only [List.map_cons, List.nodup_cons] at hn
    unfold findK at h
    split at h
    · rename_i ha
      cases h
      simp only [List.eraseIdx_cons_zero]
      refine ⟨fun q hq e => hn.1 ?_, hn.2⟩
      rw [← ha, ← e]
      exact List.mem_map_of_mem hq
    · rename_i ha
      cases h2 : findK a K with
      | none => rw [h2] at h; cases h
      | some r =>
        rw [h2] at h
        cases h
        obtain ⟨h3, h4⟩ := erase_key (K := K) (i := r.1) (y := r.2) h2 hn.2
        simp only [List.eraseIdx_cons_succ, List.map_cons, List.nodup_cons]
        refine ⟨fun q hq => ?_, fun hm => hn.1 ?_, h4⟩
        · rcases List.mem_cons.1 hq with rfl | hq
          · exact fun e => ha e.symm
          · exact h3 q hq
        · obtain ⟨q, hq, e⟩ := List.mem_map.1 hm
          exact List.mem_map.2 ⟨q, List.mem_of_mem_eraseIdx hq, e⟩
/-- The letters behind number a, up to number b. -/
def seg (x : Nat → Lt) (a b : Nat) : List Lt := (List.range' (a + 1) (b - a)).map x
theorem seg_len (x : Nat → Lt) (a b : Nat) : (seg x a b).length = b - a := by simp [seg]
theorem seg_self (x : Nat → Lt) (a : Nat) : seg x a a = [] := by simp [seg]
theorem seg_cons {x : Nat → Lt} {a b : Nat} (h : a < b) : seg x a b = x (a + 1) :: seg x (a + 1) b := by
  unfold seg
  have : b - a = (b - (a + 1)) + 1 := by omega
  rw [this, List.range'_succ]; simp
theorem seg_app {x : Nat → Lt} {a b c : Nat} (h1 : a ≤ b) (h2 : b ≤ c) : seg x a b ++ seg x b c = seg x a c := by
  unfold seg
  rw [← List.map_append]
  congr 1
  have : c - a = (b - a) + (c - b) := by omega
  rw [this, ← List.range'_append_1]
  congr 2
  omega
theorem seg_get {x : Nat → Lt} {n i : Nat} (h : i < n) : (seg x 0 n)[i]? = some (x (i + 1)) := by
  unfold seg
  rw [List.getElem?_map, List.getElem?_range' (by omega), show 0 + 1 + 1 * i = i + 1 by omega]
  rfl
/-- What has come: so many in order; the others are kept. -/
structure Recv (x : Nat → Lt) (n c : Nat) (K : List (Int × Lt)) : Prop where
  cn : c ≤ n
  keys : ∀ p ∈ K, ∃ k : Nat, p = ((k : Int), x k) ∧ c < k ∧ k ≤ n
  nodup : (K.map (·.1)).Nodup
theorem Recv.len {x : Nat → Lt} {n c : Nat} {K : List (Int × Lt)} (r : Recv x n c K) : K.length ≤ n := by
  have := pigeon n 0 (K.map (·.1)) r.nodup (fun a ha => by
    obtain ⟨p, hp, rfl⟩ := List.mem_map.1 ha
    obtain ⟨k, rfl, h1, h2⟩ := r.keys p hp
    simp; omega)
  simpa using this
theorem Recv.more {x : Nat → Lt} {n n' c : Nat} {K : List (Int × Lt)} (r : Recv x n c K) (h : n ≤ n') : Recv x n' c K :=
  ⟨Nat.le_trans r.cn h, fun p hp => by obtain ⟨k, h1, h2, h3⟩ := r.keys p hp; exact ⟨k, h1, h2, by omega⟩, r.nodup⟩
theorem Recv.full {x : Nat → Lt} {n : Nat} {K : List (Int × Lt)} (r : Recv x n n K) : K = [] := by
  cases K with
  | nil => rfl
  | cons p K => obtain ⟨k, _, h1, h2⟩ := r.keys p (by simp); omega
theorem drain_spec {x : Nat → Lt} {n : Nat} : ∀ (N c : Nat) (K : List (Int × Lt)), K.length ≤ N → c ≤ n → (∀ p ∈ K, ∃ k : Nat, p = ((k : Int), x k) ∧ c < k ∧ k ≤ n) → (K.map (·.1)).Nodup →
    ∃ (c' : Nat) (K' : List (Int × Lt)), drain N c K = ((c' : Int), K', seg x c c') ∧ c ≤ c' ∧ Recv x n c' K' ∧ ((findK ((c : Int) + 1) K).isSome = true → c < c')
  | 0, c, K, hl, hc, hk, hn => by
    have : K = [] := List.length_eq_zero_iff.1 (by omega)
    subst this
    exact ⟨c, [], by simp [drain, seg_self], Nat.le_refl _, ⟨hc, by simp, by simp⟩, by simp [findK]⟩
  | N + 1, c, K, hl, hc, hk, hn => by
    cases hf : findK ((c : Int) + 1) K with
    | none => exact ⟨c, K, by simp [drain, hf, seg_self], Nat.le_refl _, ⟨hc, hk, hn⟩, by simp⟩
    | some r =>
      obtain ⟨i, y⟩ := r
      obtain ⟨k, e, h1, h2⟩ := hk _ (findK_in hf)
      simp only [Prod.mk.injEq] at e
      have hk1 : k = c + 1 := by omega
      obtain ⟨_, rfl⟩ := e
      subst hk1
      obtain ⟨g1, g2⟩ := erase_key hf hn
      have hil := findK_lt hf
      obtain ⟨c', K', e, h3, h4, _⟩ := drain_spec N (c + 1) (K.eraseIdx i) (by rw [List.length_eraseIdx_of_lt hil]; omega) (by omega) (fun p hp => by
        obtain ⟨q, rfl, q1, q2⟩ := hk p (List.mem_of_mem_eraseIdx hp)
        have := g1 _ hp
        simp only [ne_eq] at this
        exact ⟨q, rfl, by omega, q2⟩) g2
      refine ⟨c', K', ?_, by omega, h4, fun _ => by omega⟩
      have e' : drain N ((c : Int) + 1) (K.eraseIdx i) = ((c' : Int), K', seg x (c + 1) c') := by simpa using e
      simp only [drain, hf, e']
      rw [seg_cons (by omega : c < c')]
/-- A letter comes. -/
theorem recv_got {x : Nat → Lt} {n c : Nat} {R : Ls} (hc : R.came = c) (r : Recv x n c R.kept) (hn : n ≤ 64) {p : Pk} {k : Nat} (hmay : R.may p = true) (hk : p.seq = (k : Int)) (hx : p.x = x k) (h1 : 1 ≤ k) (h2 : k ≤ n) :
    ∃ (c' : Nat) (K' : List (Int × Lt)), R.got p = ({ R with waits := later p.ack R.waits, came := (c' : Int), kept := K' }, seg x c c', ⟨R.me, R.peer, 0, (c' : Int), Lt.zero⟩, true) ∧ c ≤ c' ∧ Recv x n c' K' ∧ (k ≤ c + 1 → k ≤ c') := by
  have hks : ∃ K, R.keep p = K ∧ (∀ q ∈ K, ∃ j : Nat, q = ((j : Int), x j) ∧ c < j ∧ j ≤ n) ∧ (K.map (·.1)).Nodup ∧ (k = c + 1 → (findK ((c : Int) + 1) K).isSome = true) := by
    unfold Ls.keep
    rw [hk, hc]
    cases hf : findK (k : Int) R.kept with
    | some q =>
      refine ⟨R.kept, by simp, r.keys, r.nodup, fun h => ?_⟩
      subst h
      have : findK ((c : Int) + 1) R.kept = some q := by simpa using hf
      rw [this]; rfl
    | none =>
      by_cases hck : c < k
      · have d1 : decide ((c : Int) < (k : Int)) = true := dec_true (by omega)
        have d2 : decide ((k : Int) - (c : Int) ≤ 64) = true := dec_true (by omega)
        rw [d1, d2]
        refine ⟨R.kept ++ [((k : Int), p.x)], by simp, fun q hq => ?_, ?_, fun h => ?_⟩
        · rcases List.mem_append.1 hq with hq | hq
          · exact r.keys q hq
          · simp only [List.mem_singleton] at hq
            subst hq
            exact ⟨k, by rw [hx], hck, h2⟩
        · rw [List.map_append, List.nodup_append]
          refine ⟨r.nodup, by simp, ?_⟩
          intro a ha b hb
          simp only [List.map_cons, List.map_nil, List.mem_singleton] at hb
          subst hb
          obtain ⟨q, hq, rfl⟩ := List.mem_map.1 ha
          exact (findK_no.1 hf) q hq
        · subst h
          have : ¬ findK ((c : Int) + 1) (R.kept ++ [(((c + 1 : Nat) : Int), p.x)]) = none := by
            rw [findK_no]
            intro h
            exact h (((c + 1 : Nat) : Int), p.x) (by simp) (by simp)
          exact Option.isSome_iff_ne_none.2 this
      · have d1 : decide ((c : Int) < (k : Int)) = false := dec_false (by omega)
        rw [d1]
        exact ⟨R.kept, by simp, r.keys, r.nodup, fun h => by omega⟩
  obtain ⟨K, hK, g1, g2, g3⟩ := hks
  obtain ⟨c', K', e, h3, h4, h5⟩ := drain_spec K.length c K (Nat.le_refl _) r.cn g1 g2
  refine ⟨c', K', ?_, h3, h4, fun h => ?_⟩
  · have hs0 : p.seq ≠ 0 := by omega
    rw [← hc] at e
    simp [Ls.got, hmay, hs0, hK, e]
  · by_cases hkc : k = c + 1
    · have := h5 (g3 hkc); omega
    · omega
/-- What waits: all behind number q. -/
def Waits (x : Nat → Lt) (n q : Nat) (W : List Sn) : Prop := q ≤ n ∧ W.map (fun s => (s.seq, s.x)) = (List.range' (q + 1) (n - q)).map fun k : Nat => ((k : Int), x k)
theorem Waits.len {x : Nat → Lt} {n q : Nat} {W : List Sn} (w : Waits x n q W) : W.length = n - q := by
  have := congrArg List.length w.2
  simpa using this
theorem Waits.nil {x : Nat → Lt} {n q : Nat} {W : List Sn} (w : Waits x n q W) (h : W = []) : q = n := by
  have := w.len
  have := w.1
  subst h
  simp at *
  omega
theorem Waits.done {x : Nat → Lt} {n : Nat} {W : List Sn} (w : Waits x n n W) : W = [] := by
  have := w.len
  exact List.length_eq_zero_iff.1 (by omega)
theorem range_filter (c : Nat) : ∀ (d q : Nat), (List.range' (q + 1) d).filter (fun k => decide (c < k)) = List.range' (max q c + 1) (q + d - max q c)
  | 0, q => by
    have : q + 0 - max q c = 0 := by omega
    rw [this]; rfl
  | d + 1, q => by
    rw [List.range'_succ]
    by_cases h : c < q + 1
    · have e1 : max q c = q := by omega
      rw [List.filter_cons_of_pos (by simpa using h), range_filter c d (q + 1), e1]
      have e2 : max (q + 1) c = q + 1 := by omega
      have e3 : q + (d + 1) - q = d + 1 := by omega
      have e4 : q + 1 + d - (q + 1) = d := by omega
      rw [e2, e3, e4, List.range'_succ]
    · rw [List.filter_cons_of_neg (by simpa using h), range_filter c d (q + 1)]
      have e2 : max (q + 1) c = max q c := by omega
      have e3 : q + 1 + d = q + (d + 1) := by omega
      rw [e2, e3]
theorem Waits.later {x : Nat → Lt} {n q : Nat} {W : List Sn} (w : Waits x n q W) {c : Nat} (hc : c ≤ n) : Waits x n (max q c) (later c W) := by
  refine ⟨by have := w.1; omega, ?_⟩
  have e1 : (Lk.later c W).map (fun s => (s.seq, s.x)) = (W.map (fun s => (s.seq, s.x))).filter (fun p => decide ((c : Int) < p.1)) := by
    unfold Lk.later
    rw [List.filter_map]; rfl
  rw [e1, w.2, List.filter_map]
  have e2 : ((fun p : Int × Lt => decide ((c : Int) < p.1)) ∘ fun k : Nat => ((k : Int), x k)) = fun k => decide (c < k) := by
    funext k; simp
  rw [e2, range_filter]
  have : q + (n - q) = n := by have := w.1; omega
  rw [this]
theorem Waits.anew {x : Nat → Lt} {n q : Nat} {W : List Sn} (w : Waits x n q W) (t : Int) : Waits x n q (W.map (Sn.anew t)) := by
  refine ⟨w.1, ?_⟩
  rw [← w.2, List.map_map]
  rfl
theorem Waits.snoc {x : Nat → Lt} {n q : Nat} {W : List Sn} (w : Waits x n q W) (t : Int) : Waits x (n + 1) q (W ++ [⟨(n : Int) + 1, x (n + 1), t⟩]) := by
  have h := w.1
  refine ⟨by omega, ?_⟩
  rw [List.map_append, w.2]
  have : n + 1 - q = (n - q) + 1 := by omega
  rw [this, ← List.range'_append_1, List.map_append]
  congr 1
  have : q + 1 + (n - q) = n + 1 := by omega
  rw [this]
  simp
theorem again_eq {x : Nat → Lt} {n q : Nat} {s : Ls} (w : Waits x n q s.waits) : s.again = (List.range' (q + 1) (n - q)).map fun k : Nat => ⟨s.me, s.peer, (k : Int), s.came, x k⟩ := by
  have : s.again = (s.waits.map fun w => (w.seq, w.x)).map fun p : Int × Lt => (⟨s.me, s.peer, p.1, s.came, p.2⟩ : Pk) := by
    unfold Ls.again
    rw [List.map_map]; rfl
  rw [this, w.2, List.map_map]
  rfl
theorem got_ack {s : Ls} {p : Pk} (hmay : s.may p = true) (hp : p.seq = 0) : s.got p = ({ s with waits := later p.ack s.waits }, [], Pk.zero, true) := by simp [Ls.got, hmay, hp]
end Go.Proofs.Ytmbkklobijflkaa.Lk
