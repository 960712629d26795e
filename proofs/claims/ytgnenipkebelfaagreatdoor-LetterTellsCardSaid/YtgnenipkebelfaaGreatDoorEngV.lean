/- The engine, part V: help for specs: numbers, slices, loops. -/
import Derived.Test.YtgnenipkebelfaaGreatDoorEngT
set_option linter.unusedVariables false
set_option linter.unusedSimpArgs false
namespace Go.Eng
open Go

theorem wrap_i64 {x : Int} (h1 : -9223372036854775808 ≤ x) (h2 : x ≤ 9223372036854775807) : IntKind.i64.wrap x = x := by
  simp only [IntKind.wrap, IntKind.bits, IntKind.signed, IntKind.min, IntKind.max]
  simp
  omega
theorem wrap_u64 {x : Int} (h1 : 0 ≤ x) (h2 : x ≤ 18446744073709551615) : IntKind.u64.wrap x = x := by
  simp only [IntKind.wrap, IntKind.bits, IntKind.signed, IntKind.min, IntKind.max]
  simp
  omega

/-- A slice that its holder owns: it shows 'L', from its block's begin on; nothing else shows the block. -/
def Own (h : H) (es : Nat) (v : AV) (L : List (List AV)) : Prop :=
  (v = .nilslice ∧ L = []) ∨ ∃ b c els, v = .slice b es 0 L.length c false ∧ h[b]? = some (.row es els true true) ∧ els.take L.length = L ∧ L.length ≤ els.length ∧ L.length ≤ c

theorem take_get {α : Type} {els L : List α} {n i : Nat} (h : els.take n = L) (hi : i < L.length) : els[i]? = L[i]? := by
  subst h
  rw [List.getElem?_take]
  have : i < n := by simp at hi; omega
  rw [if_pos this]

/-- What a call may have turned: the blocks of F alone. -/
def Chg (h h' : H) (F : List Nat) : Prop := h.length ≤ h'.length ∧ ∀ c x, c ∉ F → h[c]? = some x → h'[c]? = some x
theorem Chg.refl (h : H) (F : List Nat) : Chg h h F := ⟨Nat.le_refl _, fun _ _ _ h => h⟩
theorem Chg.app (h k : H) (F : List Nat) : Chg h (h ++ k) F := ⟨by simp, fun _ _ _ hx => get_app hx⟩
theorem Chg.set {h h' : H} {F : List Nat} (hc : Chg h h' F) {b : Nat} {y : Blk} (hb : b ∈ F ∨ h.length ≤ b) : Chg h (h'.set b y) F := by
  refine ⟨by simpa using hc.1, fun c x hn hx => ?_⟩
  have hlt := (List.getElem?_eq_some_iff.1 hx).1
  have hne : b ≠ c := by
    rintro rfl
    rcases hb with hb | hb
    · exact hn hb
    · omega
  rw [List.getElem?_set_ne hne]
  exact hc.2 c x hn hx
theorem Chg.more {h h' : H} {F : List Nat} (hc : Chg h h' F) {k : H} : Chg h (h' ++ k) F := ⟨by have := hc.1; simp; omega, fun c x hn hx => get_app (hc.2 c x hn hx)⟩
theorem Chg.trans {h h' h'' : H} {F : List Nat} {G : List Nat} (a : Chg h h' F) (b : Chg h' h'' G) (hG : ∀ c ∈ G, c ∈ F ∨ h.length ≤ c) : Chg h h'' F :=
  ⟨Nat.le_trans a.1 b.1, fun c x hn hx => b.2 c x (fun hc => by
    rcases hG c hc with h1 | h1
    · exact hn h1
    · have := (List.getElem?_eq_some_iff.1 hx).1; omega) (a.2 c x hn hx)⟩
theorem Chg.mono {h h' : H} {F G : List Nat} (a : Chg h h' F) (hFG : ∀ c ∈ F, c ∈ G) : Chg h h' G := ⟨a.1, fun c x hn hx => a.2 c x (fun h => hn (hFG c h)) hx⟩

def foot : AV → List Nat
  | .slice b _ _ _ _ _ => [b]
  | _ => []
theorem Own.keep {h h' : H} {es : Nat} {v : AV} {L : List (List AV)} (ho : Own h es v L) {F : List Nat} (hc : Chg h h' F) (hd : ∀ c ∈ foot v, c ∉ F) : Own h' es v L := by
  rcases ho with ho | ⟨b, c, els, rfl, h1, h2⟩
  · exact .inl ho
  · exact .inr ⟨b, c, els, rfl, hc.2 b _ (hd b (by simp [foot])) h1, h2⟩
theorem Own.lt {h : H} {es : Nat} {v : AV} {L : List (List AV)} (ho : Own h es v L) : ∀ c ∈ foot v, c < h.length := by
  rcases ho with ⟨rfl, _⟩ | ⟨b, c, els, rfl, h1, h2⟩
  · simp [foot]
  · simp [foot]; exact (List.getElem?_eq_some_iff.1 h1).1

theorem putEls_length : ∀ (xs : List (List AV)) (els : List (List AV)) (i : Nat), (putEls els i xs).length = els.length
  | [], _, _ => rfl
  | x :: xs, els, i => by rw [putEls, putEls_length xs]; simp
theorem putEls_take : ∀ (xs : List (List AV)) (els : List (List AV)) (i j : Nat), j ≤ i → (putEls els i xs).take j = els.take j
  | [], _, _, _, _ => rfl
  | x :: xs, els, i, j, h => by
    rw [putEls, putEls_take xs _ _ _ (by omega), List.take_set_of_le h]

/-- The front of a list, one further. -/
theorem take_succ_get {α : Type} {l : List α} {i : Nat} (h : i < l.length) : l.take (i + 1) = l.take i ++ [l[i]] := by
  rw [List.take_add_one, List.getElem?_eq_getElem h]; rfl
theorem take_set_succ {α : Type} {l : List α} {i : Nat} {x : α} (h : i < l.length) : (l.set i x).take (i + 1) = l.take i ++ [x] := by
  rw [take_succ_get (by simpa using h), List.take_set_of_le (Nat.le_refl _)]
  simp
theorem Own.cells {h : H} {es : Nat} {v : AV} {L : List (List AV)} (ho : Own h es v L) : v.cells = some [v] := by
  rcases ho with ⟨rfl, _⟩ | ⟨b, c, els, rfl, _⟩ <;> rfl
theorem Own.scalar {h : H} {es : Nat} {v : AV} {L : List (List AV)} (ho : Own h es v L) : v.scalar = true := by
  rcases ho with ⟨rfl, _⟩ | ⟨b, c, els, rfl, _⟩ <;> rfl
theorem set_mid {α : Type} {A B : List α} {x y : α} : (A ++ x :: B).set A.length y = A ++ y :: B := by simp

theorem own_keep1 {h : H} {es : Nat} {v : AV} {L : List (List AV)} (ho : Own h es v L) (k : H) : Own (h ++ k) es v L := ho.keep (Chg.app h k []) (by simp)

/-- One more element, out of a slice that holds it alone. -/
theorem own_append {h : H} {es : Nat} {v : AV} {L : List (List AV)} (ho : Own h es v L) {x : List AV} (hx : x.length = es) (hs : ∀ a ∈ x, a.scalar = true) {t c : Nat} {y wr ap : Bool} (ht : h[t]? = some (.row es [x] wr ap)) (hlen : L.length < 4294967296) :
    ∃ v' h', appendV es false v (.slice t es 0 1 c y) h = some (v', h') ∧ Own h' es v' (L ++ [x]) ∧ Chg h h' (foot v) ∧ (∀ c ∈ foot v', h.length ≤ c) := by
  have hsc : ∀ e ∈ [x], e.all AV.scalar = true := by simpa using hs
  rcases ho with ⟨rfl, rfl⟩ | ⟨b, c', els, rfl, hb, hel, hle, hc⟩
  · refine ⟨.slice h.length es 0 1 1 false, h ++ [.row es [x] true true], ?_, .inr ⟨h.length, 1, [x], by simp, by simp, by simp, by simp, by simp⟩, Chg.app _ _ _, by simp [foot]⟩
    simp [appendV, evalHeap, elsOf, ht, appendEls]
    exact hs
  · refine ⟨.slice h.length es 0 (L.length + 1) (L.length + 1) false, h.set b .dead ++ [.row es (L ++ [x]) true true], ?_, .inr ⟨h.length, L.length + 1, L ++ [x], by simp, by simp, List.take_of_length_le (by simp), by simp, by simp⟩, ((Chg.refl _ _).set (.inl (by simp [foot]))).more, by simp [foot]⟩
    have hn : L.length + 1 ≤ 4294967296 := by omega
    simp [appendV, evalHeap, elsOf, ht, appendEls, hb, hle, hel, hn]
    exact hs

theorem and_small (x : Int) (m : Nat) (hm : m < 2147483648) : ∃ y : Nat, bitsV .and .i64 x m = some (y : Int) ∧ y ≤ m := by
  refine ⟨(BitVec.ofInt IntKind.i64.bits x &&& BitVec.ofInt IntKind.i64.bits m).toNat, ?_, ?_⟩
  · have h : (BitVec.ofInt IntKind.i64.bits x &&& BitVec.ofInt IntKind.i64.bits m).toNat ≤ m := by
      rw [BitVec.toNat_and]
      refine Nat.le_trans Nat.and_le_right ?_
      rw [BitVec.toNat_ofInt]
      simp only [IntKind.bits]
      omega
    simp only [bitsV]
    rw [wrap_i64 (by omega) (by omega)]
  · rw [BitVec.toNat_and]
    refine Nat.le_trans Nat.and_le_right ?_
    rw [BitVec.toNat_ofInt]
    simp only [IntKind.bits]
    omega
end Go.Eng
