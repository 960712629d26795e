/- A book of lists: what is owned, what is read, what grows. -/
import Derived.Test.YtgnenipkebelfaaGreatDoorF
import Derived.Test.YtgnenipkebelfaaGreatDoorEngW
set_option maxRecDepth 100000
set_option linter.unusedVariables false
set_option linter.unusedSimpArgs false
namespace Go.Proofs.YtgnenipkebelfaaGreatDoor.Bk
open Go Go.Eng F

/-- Owned, and its block holds just what it shows. -/
def OwnE (k : H) (es : Nat) (v : AV) (L : List (List AV)) : Prop :=
  (v = .nilslice ∧ L = []) ∨ ∃ b c x, v = .slice b es 0 L.length c x ∧ k[b]? = some (.row es L true true) ∧ L.length ≤ c
/-- It can be read. -/
def RdS (k : H) (es : Nat) (v : AV) (L : List (List AV)) : Prop :=
  (v = .nilslice ∧ L = []) ∨ (∃ b c x, v = .slice b es 0 0 c x ∧ L = []) ∨ ∃ b c x els wr ap, v = .slice b es 0 L.length c x ∧ k[b]? = some (.row es els wr ap) ∧ els.take L.length = L ∧ L.length ≤ els.length
/-- It can be read, and appended to. -/
def GrowE (k : H) (es : Nat) (v : AV) (L : List (List AV)) : Prop :=
  (v = .nilslice ∧ L = []) ∨ ∃ b c x wr, v = .slice b es 0 L.length c x ∧ k[b]? = some (.row es L wr true)
section
variable {k k' : H} {es : Nat} {v : AV} {L : List (List AV)} {F : List Nat}
theorem OwnE.grow (o : OwnE k es v L) : GrowE k es v L := by
  rcases o with h | ⟨b, c, x, h1, h2, h3⟩
  · exact .inl h
  · exact .inr ⟨b, c, x, true, h1, h2⟩
theorem _root_.Go.Eng.Own.rds (o : Own k es v L) : RdS k es v L := by
  rcases o with h | ⟨b, c, els, h1, h2, h3, h4, h5⟩
  · exact .inl h
  · exact .inr <| .inr ⟨b, c, false, els, true, true, h1, h2, h3, h4⟩
theorem GrowE.rds (o : GrowE k es v L) : RdS k es v L := by
  rcases o with h | ⟨b, c, x, wr, h1, h2⟩
  · exact .inl h
  · exact .inr <| .inr ⟨b, c, x, L, wr, true, h1, h2, List.take_length, Nat.le_refl _⟩
theorem OwnE.keep (o : OwnE k es v L) (hc : Chg k k' F) (hd : ∀ c ∈ foot v, c ∉ F) : OwnE k' es v L := by
  rcases o with h | ⟨b, c, x, rfl, h2, h3⟩
  · exact .inl h
  · exact .inr ⟨b, c, x, rfl, hc.2 b _ (hd b (by simp [foot])) h2, h3⟩
theorem RdS.keep (o : RdS k es v L) (hc : Chg k k' F) (hd : ∀ c ∈ foot v, c ∉ F) : RdS k' es v L := by
  rcases o with h | h | ⟨b, c, x, els, wr, ap, rfl, h2, h3⟩
  · exact .inl h
  · exact .inr (.inl h)
  · exact .inr <| .inr ⟨b, c, x, els, wr, ap, rfl, hc.2 b _ (hd b (by simp [foot])) h2, h3⟩
theorem GrowE.keep (o : GrowE k es v L) (hc : Chg k k' F) (hd : ∀ c ∈ foot v, c ∉ F) : GrowE k' es v L := by
  rcases o with h | ⟨b, c, x, wr, rfl, h2⟩
  · exact .inl h
  · exact .inr ⟨b, c, x, wr, rfl, hc.2 b _ (hd b (by simp [foot])) h2⟩
theorem GrowE.lt (o : GrowE k es v L) : ∀ c ∈ foot v, c < k.length := by
  rcases o with ⟨rfl, _⟩ | ⟨b, c, x, wr, rfl, h2⟩
  · simp [foot]
  · intro c hc; simp [foot] at hc; subst hc; exact (List.getElem?_eq_some_iff.1 h2).1
theorem RdS.len (o : RdS k es v L) : evalP .lenSl [v] = some (.int .i64 L.length) := by
  rcases o with ⟨rfl, rfl⟩ | ⟨b, c, x, rfl, rfl⟩ | ⟨b, c, x, els, wr, ap, rfl, h2, h3⟩
  · rfl
  · rfl
  · rw [pP_lenSl]
theorem RdS.cells (o : RdS k es v L) : v.cells = some [v] ∧ v.scalar = true ∧ AV.same v v = true := by
  rcases o with ⟨rfl, rfl⟩ | ⟨b, c, x, rfl, rfl⟩ | ⟨b, c, x, els, wr, ap, rfl, h2, h3⟩
  · exact ⟨rfl, rfl, rfl⟩
  · exact ⟨rfl, rfl, by simp [AV.same]⟩
  · exact ⟨rfl, rfl, by simp [AV.same]⟩
def slB : AV → Nat
  | .slice b _ _ _ _ _ => b
  | _ => 0
theorem RdS.idx (o : RdS k es v L) {i : Nat} (hi : i < L.length) : evalP (.indexAddr es) [v, .int .i64 (i : Nat)] = some (.ptr (slB v) i 0) ∧ rdK i k[slB v]? = L[i]? := by
  rcases o with ⟨rfl, rfl⟩ | ⟨b, c, x, rfl, rfl⟩ | ⟨b, c, x, els, wr, ap, rfl, h2, h3, h4⟩
  · simp at hi
  · simp at hi
  · refine ⟨?_, ?_⟩
    · rw [pP_indexAddr]
      have h1 : (0 : Int) ≤ i := by omega
      have h2 : (i : Int) < (L.length : Nat) := by omega
      simp only [h1, h2, and_self, if_true, slB]
      simp
    · simp only [slB]
      rw [h2, rdK_row, ← take_get h3 hi]
/-- An append that keeps what is appended to readable. -/
theorem keep_append {x : AV} {X : List (List AV)} (o : GrowE k es v L) (hx : RdS k es x X) (hX : 0 < X.length) (hs : ∀ e ∈ X, ∀ a ∈ e, a.scalar = true) (hlen : L.length + X.length ≤ 4294967296) :
    ∃ v' k', appendV es true v x k = some (v', k') ∧ GrowE k' es v' (L ++ X) ∧ RdS k' es v L ∧ Chg k k' (foot v) ∧ (∀ c ∈ foot v', k.length ≤ c) := by
  have hel : elsOf k es x = some X := by
    rcases hx with ⟨rfl, rfl⟩ | ⟨b, c, y, rfl, rfl⟩ | ⟨b, c, y, els, wr, ap, rfl, h2, h3, h4⟩
    · rfl
    · simp at hX
    · have h0 : X.length ≠ 0 := by omega
      simp [elsOf, h0, h2, h4, h3]
  have hsc : (X.all fun e => e.all AV.scalar) = true := by simpa using hs
  have hX0 : X.length ≠ 0 := by omega
  have hXn : X ≠ [] := by rintro rfl; simp at hX
  rcases o with ⟨rfl, rfl⟩ | ⟨b, c, y, wr, rfl, h2⟩
  · refine ⟨.slice k.length es 0 X.length X.length false, k ++ [.row es X true true], ?_, .inr ⟨k.length, X.length, false, true, by simp, by simp⟩, .inl ⟨rfl, rfl⟩, Chg.app _ _ _, by simp [foot]⟩
    have : X.length ≤ 4294967296 := by simpa using hlen
    simp only [appendV, evalHeap, hel, hsc, if_true, appendEls, hX0, if_false, this, true_or]
  · by_cases hy : y = true ∧ c < L.length + X.length
    · refine ⟨.slice k.length es 0 (L.length + X.length) (L.length + X.length) false, k ++ [.row es (L ++ X) true true], ?_, .inr ⟨k.length, L.length + X.length, false, true, by simp, by simp⟩, ?_, Chg.app _ _ _, by simp [foot]⟩
      · simp [appendV, evalHeap, hel, appendEls, hX0, hXn, h2, hlen, hy.1, hy.2]
        exact hs
      · exact .inr <| .inr ⟨b, c, y, L, wr, true, rfl, get_app h2, List.take_length, Nat.le_refl _⟩
    refine ⟨.slice k.length es 0 (L.length + X.length) (L.length + X.length) false, k.set b (.row es L false false) ++ [.row es (L ++ X) false true], ?_, .inr ⟨k.length, L.length + X.length, false, false, by simp, by simp⟩, ?_, ((Chg.refl _ _).set (.inl (by simp [foot]))).more, by simp [foot]⟩
    · simp [appendV, evalHeap, hel, appendEls, hX0, hXn, h2, hlen, hy]
      exact hs
    · exact .inr <| .inr ⟨b, c, y, L, false, false, rfl, get_app (get_set_same h2), List.take_length, Nat.le_refl _⟩
/-- An append to what one owns. -/
theorem ownE_append {x : AV} {X : List (List AV)} (o : OwnE k es v L) (hx : RdS k es x X) (hX : 0 < X.length) (hs : ∀ e ∈ X, ∀ a ∈ e, a.scalar = true) (hlen : L.length + X.length ≤ 4294967296) :
    ∃ v' k', appendV es false v x k = some (v', k') ∧ OwnE k' es v' (L ++ X) ∧ Chg k k' (foot v) ∧ (∀ c ∈ foot v', k.length ≤ c) := by
  have hel : elsOf k es x = some X := by
    rcases hx with ⟨rfl, rfl⟩ | ⟨b, c, y, rfl, rfl⟩ | ⟨b, c, y, els, wr, ap, rfl, h2, h3, h4⟩
    · rfl
    · simp at hX
    · have h0 : X.length ≠ 0 := by omega
      simp [elsOf, h0, h2, h4, h3]
  have hsc : (X.all fun e => e.all AV.scalar) = true := by simpa using hs
  have hX0 : X.length ≠ 0 := by omega
  have hXn : X ≠ [] := by rintro rfl; simp at hX
  rcases o with ⟨rfl, rfl⟩ | ⟨b, c, y, rfl, h2, h3⟩
  · refine ⟨.slice k.length es 0 X.length X.length false, k ++ [.row es X true true], ?_, .inr ⟨k.length, X.length, false, by simp, by simp, by simp⟩, Chg.app _ _ _, by simp [foot]⟩
    have : X.length ≤ 4294967296 := by simpa using hlen
    simp only [appendV, evalHeap, hel, hsc, if_true, appendEls, hX0, if_false, this, true_or]
  · by_cases hy : y = true ∧ c < L.length + X.length
    · refine ⟨.slice k.length es 0 (L.length + X.length) (L.length + X.length) false, k ++ [.row es (L ++ X) true true], ?_, .inr ⟨k.length, L.length + X.length, false, by simp, by simp, by simp⟩, Chg.app _ _ _, by simp [foot]⟩
      simp [appendV, evalHeap, hel, appendEls, hX0, hXn, h2, hlen, hy.1, hy.2]
      exact hs
    refine ⟨.slice k.length es 0 (L.length + X.length) (L.length + X.length) false, k.set b .dead ++ [.row es (L ++ X) true true], ?_, .inr ⟨k.length, L.length + X.length, false, by simp, by simp, by simp⟩, ((Chg.refl _ _).set (.inl (by simp [foot]))).more, by simp [foot]⟩
    simp [appendV, evalHeap, hel, appendEls, hX0, hXn, h2, hlen, hy]
    exact hs
end
theorem rds_els {k : H} {es : Nat} {v : AV} {L : List (List AV)} (hx : RdS k es v L) : elsOf k es v = some L := by
  rcases hx with ⟨rfl, rfl⟩ | ⟨b, c, y, rfl, rfl⟩ | ⟨b, c, y, els, wr, ap, rfl, h2, h3, h4⟩
  · rfl
  · simp [elsOf]
  · by_cases h0 : L.length = 0
    · have : L = [] := List.length_eq_zero_iff.1 h0
      subst this; simp [elsOf]
    · simp [elsOf, h0, h2, h4, h3]
/-- An append of a list to nothing. -/
theorem nil_appendW {k : H} {es : Nat} {v : AV} {L : List (List AV)} (hx : RdS k es v L) (hs : ∀ e ∈ L, ∀ a ∈ e, a.scalar = true) (hlen : L.length ≤ 4294967296 ∨ L.length * (24 * es) ≤ 281474976710656) :
    ∃ c k', appendV es false .nilslice v k = some (c, k') ∧ OwnE k' es c L ∧ Chg k k' [] ∧ (∀ x ∈ foot c, k.length ≤ x) := by
  have hel := rds_els hx
  have hsc : (L.all fun e => e.all AV.scalar) = true := by simpa using hs
  by_cases h0 : L.length = 0
  · have : L = [] := List.length_eq_zero_iff.1 h0
    subst this
    exact ⟨.nilslice, k, by simp [appendV, evalHeap, hel, appendEls], .inl ⟨rfl, rfl⟩, Chg.refl _ _, by simp [foot]⟩
  · refine ⟨.slice k.length es 0 L.length L.length false, k ++ [.row es L true true], ?_, .inr ⟨k.length, L.length, false, rfl, by simp, Nat.le_refl _⟩, Chg.app _ _ _, by simp [foot]⟩
    simp only [appendV, evalHeap, hel, hsc, if_true, appendEls, h0, if_false, hlen]
theorem nil_append {k : H} {es : Nat} {v : AV} {L : List (List AV)} (hx : RdS k es v L) (hs : ∀ e ∈ L, ∀ a ∈ e, a.scalar = true) (hlen : L.length ≤ 4294967296) :
    ∃ c k', appendV es false .nilslice v k = some (c, k') ∧ OwnE k' es c L ∧ Chg k k' [] ∧ (∀ x ∈ foot c, k.length ≤ x) :=
  nil_appendW hx hs (.inl hlen)
theorem rds_app {h k : H} {es : Nat} {v : AV} {L : List (List AV)} (o : RdS h es v L) : RdS (h ++ k) es v L := o.keep (Chg.app _ _ []) (by simp)
theorem own_app1 {h k : H} {es : Nat} {v : AV} {L : List (List AV)} (o : OwnE h es v L) : OwnE (h ++ k) es v L := o.keep (Chg.app _ _ []) (by simp)
theorem OwnE.lt {k : H} {es : Nat} {v : AV} {L : List (List AV)} (o : OwnE k es v L) : ∀ c ∈ foot v, c < k.length := o.grow.lt
theorem OwnE.rds {k : H} {es : Nat} {v : AV} {L : List (List AV)} (o : OwnE k es v L) : RdS k es v L := o.grow.rds
theorem slOf_rds {h : H} {es : Nat} {v : AV} {els : List (List AV)} (hs : SlOf h es v els) : RdS h es v els := by
  rcases hs with h | ⟨b, c, rfl, hc, hb⟩
  · exact .inl h
  · by_cases h0 : els = []
    · subst h0; exact .inr (.inl ⟨b, c, true, rfl, rfl⟩)
    · exact .inr (.inr ⟨b, c, true, els, false, false, rfl, hb h0, List.take_length, Nat.le_refl _⟩)
/-- All cells of an element are put. -/
theorem putCells_app : ∀ (cs A e : List AV), e.length = cs.length → putCells (A ++ e) A.length cs = A ++ cs
  | [], A, e, h => by
    have : e = [] := List.length_eq_zero_iff.1 (by simpa using h)
    simp [putCells, this]
  | c :: cs, A, e, h => by
    cases e with
    | nil => simp at h
    | cons x e =>
      simp only [putCells, List.set_append_right _ _ (Nat.le_refl _), Nat.sub_self, List.set_cons_zero]
      have h1 := putCells_app cs (A ++ [c]) e (by simpa using h)
      simpa using h1
theorem putCells_all {e cs : List AV} (h : e.length = cs.length) : putCells e 0 cs = cs := putCells_app cs [] e h
theorem feet_lt {k : H} : ∀ {vs : List AV} {c : Nat}, c ∈ vs.flatMap foot → (∀ i (h : i < vs.length), ∀ z ∈ foot vs[i], z < k.length) → c < k.length := by
  intro vs c hc h
  obtain ⟨v, hv, hcv⟩ := List.mem_flatMap.1 hc
  obtain ⟨i, hi, rfl⟩ := List.getElem_of_mem hv
  exact h i hi c hcv
/-- The block that is looked at. -/
def foot0 : AV → List Nat
  | .slice b _ _ n _ _ => if n = 0 then [] else [b]
  | _ => []
theorem foot0_sub {v : AV} {c : Nat} (h : c ∈ foot0 v) : c ∈ foot v := by
  cases v with
  | slice b es i n cp x =>
    simp only [foot0] at h
    split at h
    · cases h
    · exact h
  | _ => cases h
theorem RdS.keep0 {k k' : H} {es : Nat} {v : AV} {L : List (List AV)} {F : List Nat} (o : RdS k es v L) (hc : Chg k k' F) (hd : ∀ c ∈ foot0 v, c ∉ F) : RdS k' es v L := by
  rcases o with h | h | ⟨b, c, x, els, wr, ap, rfl, h2, h3⟩
  · exact .inl h
  · exact .inr (.inl h)
  · by_cases h0 : L.length = 0
    · have : L = [] := List.length_eq_zero_iff.1 h0
      subst this
      exact .inr (.inl ⟨b, c, x, rfl, rfl⟩)
    · exact .inr <| .inr ⟨b, c, x, els, wr, ap, rfl, hc.2 b _ (hd b (by simp [foot0, h0])) h2, h3⟩
theorem RdS.lt0 {k : H} {es : Nat} {v : AV} {L : List (List AV)} (o : RdS k es v L) : ∀ c ∈ foot0 v, c < k.length := by
  rcases o with ⟨rfl, _⟩ | ⟨b, c, x, rfl, _⟩ | ⟨b, c, x, els, wr, ap, rfl, h2, h3⟩
  · simp [foot0]
  · simp [foot0]
  · intro z hz
    simp only [foot0] at hz
    split at hz
    · cases hz
    · simp only [List.mem_singleton] at hz; subst hz; exact (List.getElem?_eq_some_iff.1 h2).1
def loopsAll : SCode → List (List Nat × SCode)
  | .loop l b => (l, b) :: loopsAll b
  | .seq a b => loopsAll a ++ loopsAll b
  | .cond _ a b => loopsAll a ++ loopsAll b
  | .block _ a => loopsAll a
  | .scope a => loopsAll a
  | _ => []

/-- Two layers side by side. -/
theorem join_sound {P : Program} {a b : FuncId → List AV → M AV} (l : List Nat) (ha : CfSound P a) (hb : CfSound P b) : CfSound P (fun f vs h => if l.contains f then a f vs h else b f vs h) := by
  intro f vs h v h' hr
  simp only at hr
  split at hr
  · exact ha f vs h v h' hr
  · exact hb f vs h v h' hr
end Go.Proofs.YtgnenipkebelfaaGreatDoor.Bk
