/- Link and the document's link: what is kept, side by side (plain). -/
import Derived.Test.YtmbkklobijflkaaLpZ
set_option maxRecDepth 100000
set_option linter.unusedVariables false
set_option linter.unusedSimpArgs false
namespace Go.Proofs.Ytmbkklobijflkaa.Lp
open Go Go.Eng F Lk Bk BkI

inductive Kp (R : Lv → Lv → Prop) : List (Int × Lv) → List Pv → Prop where
  | nil : Kp R [] []
  | cons {a : Int × Lv} {p : Pv} {l : List (Int × Lv)} {P : List Pv} : a.1 = p.seq → R a.2 p.y → Kp R l P → Kp R (a :: l) (p :: P)
inductive Lp2 (R : Lv → Lv → Prop) : List Lv → List Lv → Prop where
  | nil : Lp2 R [] []
  | cons {a b : Lv} {l m : List Lv} : R a b → Lp2 R l m → Lp2 R (a :: l) (b :: m)
section
variable {R : Lv → Lv → Prop}
theorem Kp.len {l : List (Int × Lv)} {P : List Pv} (h : Kp R l P) : l.length = P.length := by
  induction h with
  | nil => rfl
  | cons _ _ _ ih => simp [ih]
theorem Lp2.len {l m : List Lv} (h : Lp2 R l m) : l.length = m.length := by
  induction h with
  | nil => rfl
  | cons _ _ ih => simp [ih]
theorem Kp.mono {S : Lv → Lv → Prop} {l : List (Int × Lv)} {P : List Pv} (h : Kp R l P) (hs : ∀ x y, R x y → S x y) : Kp S l P := by
  induction h with
  | nil => exact .nil
  | cons a b _ ih => exact .cons a (hs _ _ b) ih
theorem Lp2.mono {S : Lv → Lv → Prop} {l m : List Lv} (h : Lp2 R l m) (hs : ∀ x y, R x y → S x y) : Lp2 S l m := by
  induction h with
  | nil => exact .nil
  | cons a _ ih => exact .cons (hs _ _ a) ih
theorem Kp.snoc {l : List (Int × Lv)} {P : List Pv} (h : Kp R l P) {n : Int} {x : Lv} {p : Pv} (h1 : n = p.seq) (h2 : R x p.y) : Kp R (l ++ [(n, x)]) (P ++ [p]) := by
  induction h with
  | nil => exact .cons h1 h2 .nil
  | cons a b _ ih => exact .cons a b ih
theorem Kp.erase {l : List (Int × Lv)} {P : List Pv} (h : Kp R l P) : ∀ i, Kp R (l.eraseIdx i) (P.eraseIdx i) := by
  induction h with
  | nil => intro i; exact .nil
  | cons a b h ih =>
    intro i
    cases i with
    | zero => exact h
    | succ i => exact .cons a b (ih i)
theorem Kp.none {l : List (Int × Lv)} {P : List Pv} (h : Kp R l P) (n : Int) : findK n l = none ↔ idxP n P = none := by
  induction h with
  | nil => simp [findK, idxP]
  | @cons a p l P e b h ih =>
    unfold findK idxP
    by_cases hn : n = a.1
    · have : p.seq = n := by rw [← e, hn]
      simp [hn, this.trans hn]
    · have : ¬ p.seq = n := by rw [← e]; exact fun h => hn h.symm
      simp [hn, this, ih]
theorem Kp.some {l : List (Int × Lv)} {P : List Pv} (h : Kp R l P) {n : Int} : ∀ {i : Nat} {x : Lv}, findK n l = some (i, x) → idxP n P = some i ∧ ∃ p, P[i]? = some p ∧ R x p.y := by
  induction h with
  | nil => intro i x hx; simp [findK] at hx
  | @cons a p l P e b h ih =>
    intro i x hx
    unfold findK at hx
    unfold idxP
    by_cases hn : n = a.1
    · have h2 : p.seq = n := by rw [← e, hn]
      rw [if_pos hn] at hx
      cases hx
      exact ⟨if_pos h2, p, rfl, b⟩
    · have h2 : ¬ p.seq = n := by rw [← e]; exact fun h => hn h.symm
      rw [if_neg hn] at hx
      cases hf : findK n l with
      | none => rw [hf] at hx; cases hx
      | some r =>
        rw [hf] at hx
        cases hx
        obtain ⟨h3, q, h4, h5⟩ := ih (i := r.1) (x := r.2) hf
        exact ⟨by rw [if_neg h2, h3]; rfl, q, by simpa using h4, h5⟩
theorem Kp.drain : ∀ (n : Nat) (c : Int) {l : List (Int × Lv)} {P : List Pv}, Kp R l P → (drain n c l).1 = (rdrain n c P).1 ∧ Kp R (drain n c l).2.1 (rdrain n c P).2.1 ∧ Lp2 R (drain n c l).2.2 (rdrain n c P).2.2
  | 0, c, l, P, h => ⟨rfl, h, .nil⟩
  | n + 1, c, l, P, h => by
    cases hf : findK (c + 1) l with
    | none =>
      have h2 := (h.none (c + 1)).1 hf
      simp only [Lp.drain, rdrain, hf, h2]
      exact ⟨trivial, h, .nil⟩
    | some r =>
      obtain ⟨i, x⟩ := r
      obtain ⟨h2, p, h3, h4⟩ := h.some hf
      obtain ⟨q1, q2, q3⟩ := Kp.drain n (c + 1) (h.erase i)
      simp only [Lp.drain, rdrain, hf, h2, h3]
      exact ⟨q1, q2, .cons h4 q3⟩
end
end Go.Proofs.Ytmbkklobijflkaa.Lp
