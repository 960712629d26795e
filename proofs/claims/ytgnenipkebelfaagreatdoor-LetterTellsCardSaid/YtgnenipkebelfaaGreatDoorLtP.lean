/- Letters as bytes: plain. -/
import Derived.Test.YtgnenipkebelfaaGreatDoorPkD
set_option maxRecDepth 100000
set_option linter.unusedVariables false
set_option linter.unusedSimpArgs false
namespace Go.Proofs.YtgnenipkebelfaaGreatDoor.Lt
open Go Go.Eng Pk

abbrev It := List UInt8 × List UInt8
/-- A letter; 'ti', 'it': its lists. -/
structure Ltr where
  kind : Int
  frm : Int
  dst : Int
  id : Int
  op : Int
  key : List UInt8
  value : List UInt8
  to2 : List UInt8
  most : Int
  errno : Int
  tv : List UInt8
  ti : List It
  more : Bool
  next : List UInt8
  tnode : Int
  af : Int
  at_ : Int
  ep : Int
  it : List It
  n : Int
  node : Int
def itemS (x : It) : List UInt8 := textS x.1 ++ textS x.2
def itemsS (X : List It) : List UInt8 := numS (X.length : Nat) ++ X.flatMap itemS
def flagI (b : Bool) : Int := if b = true then 1 else 0
def putS (l : Ltr) : List UInt8 :=
  numS l.kind ++ (numS l.frm ++ (numS l.dst ++ (numS l.id ++ (numS l.ep ++ (numS l.n ++ (numS l.node ++ (wideS l.af ++ (wideS l.at_ ++ (itemsS l.it ++
  (numS l.op ++ (textS l.key ++ (textS l.value ++ (textS l.to2 ++ (numS l.most ++ (numS l.errno ++ (textS l.tv ++ (itemsS l.ti ++ (numS (flagI l.more) ++ (textS l.next ++ numS l.tnode)))))))))))))))))))
def byteful (v : Int) : Bool := decide (0 ≤ v) && decide (v ≤ 255)
def numeral (v : Int) : Bool := decide (0 ≤ v) && decide (v ≤ 65535)
def short (s : List UInt8) : Bool := decide (s.length ≤ 255)
def lineOk (x : It) : Bool := short x.1 && short x.2
def itemsOk (X : List It) : Bool := decide (X.length ≤ 40) && X.all lineOk
def right (l : Ltr) : Bool :=
  (decide (1 ≤ l.kind) && decide (l.kind ≤ 16)) && ((byteful l.frm && byteful l.dst && byteful l.node && byteful l.op && byteful l.errno && byteful l.tnode) && ((numeral l.id && numeral l.ep && numeral l.n && numeral l.most) &&
    ((short l.key && short l.value && short l.to2 && short l.tv && short l.next) && (itemsOk l.it && itemsOk l.ti))))
theorem byteful_iff {v : Int} : byteful v = true ↔ 0 ≤ v ∧ v ≤ 255 := by simp [byteful]
theorem numeral_iff {v : Int} : numeral v = true ↔ 0 ≤ v ∧ v ≤ 65535 := by simp [numeral]
theorem short_iff {s : List UInt8} : short s = true ↔ s.length ≤ 255 := by simp [short]
theorem lineOk_iff {x : It} : lineOk x = true ↔ x.1.length ≤ 255 ∧ x.2.length ≤ 255 := by simp [lineOk, short]
theorem itemsOk_iff {X : List It} : itemsOk X = true ↔ X.length ≤ 40 ∧ ∀ x ∈ X, x.1.length ≤ 255 ∧ x.2.length ≤ 255 := by
  simp only [itemsOk, Bool.and_eq_true, decide_eq_true_eq, List.all_eq_true, lineOk_iff]
/-- A letter that may be. -/
structure Good (l : Ltr) : Prop where
  kind : 1 ≤ l.kind ∧ l.kind ≤ 16
  frm : 0 ≤ l.frm ∧ l.frm ≤ 255
  dst : 0 ≤ l.dst ∧ l.dst ≤ 255
  node : 0 ≤ l.node ∧ l.node ≤ 255
  op : 0 ≤ l.op ∧ l.op ≤ 255
  errno : 0 ≤ l.errno ∧ l.errno ≤ 255
  tnode : 0 ≤ l.tnode ∧ l.tnode ≤ 255
  id : 0 ≤ l.id ∧ l.id ≤ 65535
  ep : 0 ≤ l.ep ∧ l.ep ≤ 65535
  n : 0 ≤ l.n ∧ l.n ≤ 65535
  most : 0 ≤ l.most ∧ l.most ≤ 65535
  key : l.key.length ≤ 255
  value : l.value.length ≤ 255
  to2 : l.to2.length ≤ 255
  tv : l.tv.length ≤ 255
  next : l.next.length ≤ 255
  it : l.it.length ≤ 40 ∧ ∀ x ∈ l.it, x.1.length ≤ 255 ∧ x.2.length ≤ 255
  ti : l.ti.length ≤ 40 ∧ ∀ x ∈ l.ti, x.1.length ≤ 255 ∧ x.2.length ≤ 255
theorem right_iff {l : Ltr} : right l = true ↔ Good l := by
  simp only [right, Bool.and_eq_true, decide_eq_true_eq, byteful_iff, numeral_iff, short_iff, itemsOk_iff]
  constructor
  · rintro ⟨h1, ⟨⟨⟨⟨⟨h2, h3⟩, h4⟩, h5⟩, h6⟩, h7⟩, ⟨⟨⟨h8, h9⟩, h10⟩, h11⟩, ⟨⟨⟨⟨h12, h13⟩, h14⟩, h15⟩, h16⟩, h17, h18⟩
    exact ⟨h1, h2, h3, h4, h5, h6, h7, h8, h9, h10, h11, h12, h13, h14, h15, h16, h17, h18⟩
  · rintro ⟨h1, h2, h3, h4, h5, h6, h7, h8, h9, h10, h11, h12, h13, h14, h15, h16, h17, h18⟩
    exact ⟨h1, ⟨⟨⟨⟨⟨h2, h3⟩, h4⟩, h5⟩, h6⟩, h7⟩, ⟨⟨⟨h8, h9⟩, h10⟩, h11⟩, ⟨⟨⟨⟨h12, h13⟩, h14⟩, h15⟩, h16⟩, h17, h18⟩
/-- Points are points. -/
def Wf (l : Ltr) : Prop := (0 ≤ l.af ∧ l.af ≤ 18446744073709551615) ∧ 0 ≤ l.at_ ∧ l.at_ ≤ 18446744073709551615

/-! Reading. -/
def listGo : Nat → List It → Rd → List It × Rd
  | 0, o, x => (o, x)
  | n + 1, o, x => if x.text.2.text.2.bad = true ∨ 40 < o.length then (o, x.text.2.text.2) else listGo n (o ++ [(x.text.1, x.text.2.text.1)]) x.text.2.text.2
def rlistGo : Nat → List It → Rd → List It × Rd
  | 0, o, x => (o, x)
  | n + 1, o, x => if x.bad = true then (o, x) else rlistGo n (o ++ [(x.text.1, x.text.2.text.1)]) x.text.2.text.2
def _root_.Go.Proofs.YtgnenipkebelfaaGreatDoor.Pk.Rd.list (x : Rd) : List It × Rd := listGo x.num.1 [] x.num.2
def _root_.Go.Proofs.YtgnenipkebelfaaGreatDoor.Pk.Rd.rlist (x : Rd) : List It × Rd := rlistGo x.num.1 [] x.num.2
/-- What a reader comes to, by a reader of items. -/
def readW (L : Rd → List It × Rd) (x : Rd) : Ltr × Rd :=
  let a1 := x.num; let a2 := a1.2.num; let a3 := a2.2.num; let a4 := a3.2.num; let a5 := a4.2.num; let a6 := a5.2.num; let a7 := a6.2.num
  let a8 := a7.2.wide; let a9 := a8.2.wide; let a10 := L a9.2
  let b1 := a10.2.num; let b2 := b1.2.text; let b3 := b2.2.text; let b4 := b3.2.text; let b5 := b4.2.num
  let b6 := b5.2.num; let b7 := b6.2.text; let b8 := L b7.2; let b9 := b8.2.num; let b10 := b9.2.text; let b11 := b10.2.num
  (⟨(a1.1 : Nat), (a2.1 : Nat), (a3.1 : Nat), (a4.1 : Nat), (b1.1 : Nat), b2.1, b3.1, b4.1, (b5.1 : Nat), (b6.1 : Nat), b7.1, b8.1, b9.1 == 1, b10.1, (b11.1 : Nat), (a8.1 : Nat), (a9.1 : Nat), (a5.1 : Nat), a10.1, (a6.1 : Nat), (a7.1 : Nat)⟩, b11.2)
theorem num_backI {v : Int} (h : 0 ≤ v ∧ v ≤ 65535) (t : List UInt8) : Rd.num ⟨numS v ++ t, false⟩ = (v.toNat, ⟨t, false⟩) := by
  have := num_back v.toNat t (by omega)
  rwa [Int.toNat_of_nonneg h.1] at this
theorem wide_backI {v : Int} (h : 0 ≤ v ∧ v ≤ 18446744073709551615) (t : List UInt8) : Rd.wide ⟨wideS v ++ t, false⟩ = (v.toNat, ⟨t, false⟩) := by
  have := wide_back v.toNat t (by omega)
  rwa [Int.toNat_of_nonneg h.1] at this
theorem listGo_back : ∀ (X o : List It) (t : List UInt8), o.length + X.length ≤ 41 → (∀ x ∈ X, x.1.length ≤ 255 ∧ x.2.length ≤ 255) → listGo X.length o ⟨X.flatMap itemS ++ t, false⟩ = (o ++ X, ⟨t, false⟩)
  | [], o, t, _, _ => by simp [listGo]
  | x :: X, o, t, hl, hs => by
    obtain ⟨h1, h2⟩ := hs x (by simp)
    have e1 := text_back x.1 (textS x.2 ++ (X.flatMap itemS ++ t)) h1
    have e2 := text_back x.2 (X.flatMap itemS ++ t) h2
    have hl' : ¬ 40 < o.length := by simp at hl; omega
    have ih := listGo_back X (o ++ [x]) t (by simp at hl ⊢; omega) (fun y hy => hs y (by simp [hy]))
    simp only [List.flatMap_cons, itemS, List.append_assoc, List.length_cons, listGo] at ih ⊢
    rw [e1]
    simp only
    rw [e2]
    simp only [Bool.false_eq_true, false_or, hl', if_false]
    simpa using ih
theorem rlistGo_back : ∀ (X o : List It) (t : List UInt8), (∀ x ∈ X, x.1.length ≤ 255 ∧ x.2.length ≤ 255) → rlistGo X.length o ⟨X.flatMap itemS ++ t, false⟩ = (o ++ X, ⟨t, false⟩)
  | [], o, t, _ => by simp [rlistGo]
  | x :: X, o, t, hs => by
    obtain ⟨h1, h2⟩ := hs x (by simp)
    have e1 := text_back x.1 (textS x.2 ++ (X.flatMap itemS ++ t)) h1
    have e2 := text_back x.2 (X.flatMap itemS ++ t) h2
    have ih := rlistGo_back X (o ++ [x]) t (fun y hy => hs y (by simp [hy]))
    simp only [List.flatMap_cons, itemS, List.append_assoc, List.length_cons, rlistGo] at ih ⊢
    simp only [Bool.false_eq_true, if_false]
    rw [e1]
    simp only
    rw [e2]
    simpa using ih
theorem list_back (X : List It) (t : List UInt8) (h : X.length ≤ 40 ∧ ∀ x ∈ X, x.1.length ≤ 255 ∧ x.2.length ≤ 255) : Rd.list ⟨itemsS X ++ t, false⟩ = (X, ⟨t, false⟩) := by
  unfold Rd.list itemsS
  rw [List.append_assoc, num_back X.length _ (by omega)]
  simpa using listGo_back X [] t (by simp; omega) h.2
theorem rlist_back (X : List It) (t : List UInt8) (h : X.length ≤ 40 ∧ ∀ x ∈ X, x.1.length ≤ 255 ∧ x.2.length ≤ 255) : Rd.rlist ⟨itemsS X ++ t, false⟩ = (X, ⟨t, false⟩) := by
  unfold Rd.rlist itemsS
  rw [List.append_assoc, num_back X.length _ (by omega)]
  simpa using rlistGo_back X [] t h.2
theorem readW_back {L : Rd → List It × Rd} (hL : ∀ (X : List It) (t : List UInt8), (X.length ≤ 40 ∧ ∀ x ∈ X, x.1.length ≤ 255 ∧ x.2.length ≤ 255) → L ⟨itemsS X ++ t, false⟩ = (X, ⟨t, false⟩)) {l : Ltr} (g : Good l) (w : Wf l) (t : List UInt8) : readW L ⟨putS l ++ t, false⟩ = (l, ⟨t, false⟩) := by
  have f1 : (0 : Int) ≤ flagI l.more ∧ flagI l.more ≤ 65535 := by unfold flagI; split <;> omega
  have f2 : ((flagI l.more).toNat == 1) = l.more := by cases h : l.more <;> simp [flagI]
  have n8 : ∀ {v : Int}, 0 ≤ v ∧ v ≤ 255 → 0 ≤ v ∧ v ≤ 65535 := fun h => ⟨h.1, by omega⟩
  have n16 : ∀ {v : Int}, 1 ≤ v ∧ v ≤ 16 → 0 ≤ v ∧ v ≤ 65535 := fun h => by omega
  unfold putS
  simp only [List.append_assoc]
  unfold readW
  simp only [num_backI (n16 g.kind), num_backI (n8 g.frm), num_backI (n8 g.dst), num_backI g.id, num_backI g.ep, num_backI g.n, num_backI (n8 g.node), wide_backI w.1, wide_backI w.2, hL _ _ g.it, num_backI (n8 g.op), text_back _ _ g.key, text_back _ _ g.value, text_back _ _ g.to2, num_backI g.most, num_backI (n8 g.errno), text_back _ _ g.tv, hL _ _ g.ti, num_backI f1, text_back _ _ g.next, num_backI (n8 g.tnode), f2]
  have tn : ∀ {v : Int}, 0 ≤ v → ((v.toNat : Nat) : Int) = v := fun h => Int.toNat_of_nonneg h
  have hk : 0 ≤ l.kind := by have := g.kind; omega
  simp only [tn hk, tn g.frm.1, tn g.dst.1, tn g.id.1, tn g.ep.1, tn g.n.1, tn g.node.1, tn w.1.1, tn w.2.1, tn g.op.1, tn g.most.1, tn g.errno.1, tn g.tnode.1]
/-- Bytes of letters go back: nothing is ahead of another. -/
theorem put_inj {l m : Ltr} (gl : Good l) (wl : Wf l) (gm : Good m) (wm : Wf m) {t u : List UInt8} (h : putS l ++ t = putS m ++ u) : l = m ∧ t = u := by
  have h1 := readW_back list_back gl wl t
  have h2 := readW_back list_back gm wm u
  rw [h, h2] at h1
  cases h1
  exact ⟨rfl, rfl⟩
theorem numS_len (v : Int) : (numS v).length = 2 := rfl
theorem wideS_len (v : Int) : (wideS v).length = 8 := rfl
theorem textS_len (s : List UInt8) : (textS s).length = s.length + 1 := rfl
theorem items_le : ∀ (X : List It) (a : Nat), (∀ x ∈ X, x.1.length ≤ a ∧ x.2.length ≤ a) → (X.flatMap itemS).length ≤ X.length * (2 * a + 2)
  | [], a, _ => by simp
  | x :: X, a, h => by
    have ih := items_le X a (fun y hy => h y (by simp [hy]))
    have := h x (by simp)
    have e : (X.length + 1) * (2 * a + 2) = X.length * (2 * a + 2) + (2 * a + 2) := Nat.succ_mul _ _
    simp only [List.flatMap_cons, List.length_append, itemS, textS_len, List.length_cons]
    rw [e]
    omega
theorem put_pos (l : Ltr) : 0 < (putS l).length := by unfold putS; simp [numS_len]; omega
/-! Packets. -/
structure Pkt where
  frm : Int
  dst : Int
  seq : Int
  ack : Int
  y : Ltr
def putPS (p : Pkt) : List UInt8 := numS p.frm ++ (numS p.dst ++ (numS p.seq ++ (numS p.ack ++ if 0 < p.seq then putS p.y else [])))
def zeroL (l : Ltr) : Bool :=
  decide (l.it.length = 0) && decide (l.ti.length = 0) && (l.kind == 0) && (l.frm == 0) && (l.dst == 0) && (l.id == 0) && ((l.op == 0) && (l.key == []) && (l.value == []) && (l.to2 == []) && (l.most == 0)) && ((l.af == 0) && (l.at_ == 0)) && (l.ep == 0) && (l.n == 0) && (l.node == 0) &&
    (l.errno == 0) && (l.tv == []) && (!l.more) && (l.next == []) && (l.tnode == 0)
end Go.Proofs.YtgnenipkebelfaaGreatDoor.Lt
