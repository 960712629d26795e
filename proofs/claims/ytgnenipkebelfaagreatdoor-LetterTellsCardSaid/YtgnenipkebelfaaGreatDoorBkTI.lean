/- Several texts in one. -/
import Derived.Test.YtgnenipkebelfaaGreatDoorLtN
/- Letters: a book beside: names of marks, the table in which the book is run. -/
set_option maxRecDepth 100000
set_option linter.unusedVariables false
set_option linter.unusedSimpArgs false
namespace Go.Proofs.YtgnenipkebelfaaGreatDoor.Bk
open Go Go.Eng F

/-! Names of marks. -/
theorem name_ex (i k : Int) : ∃ (s : List UInt8) (h : H), call fs noEx 118 [.int .i64 i, .int .i64 k] [] = some (.str s, h) := by
  rw [call_eq fs noEx (f := 118) (sf := sf118) rfl]
  simp [sf118, evalR, bytesA, Lt.evB, recheck, wantsOp, AV.same, sames, eqCells, eqLeaf, toL_some, asc, fzero, fnone, List.map_cons, List.map_nil, resVals, resVal, resOf, partV, fillA, putCells, fillEls, strBin, minV, optNat, appendEls, elsOf, sliceSlV, sliceStrV, List.replicate, List.getElem?_append_left, List.getElem?_append_right, List.set_append_left, List.set_append_right, List.getElem?_set_self, List.getElem?_set_ne]
noncomputable def nm (i k : Int) : List UInt8 := Classical.choose (name_ex i k)
theorem nm_call (i k : Int) : ∃ h : H, call fs noEx 118 [.int .i64 i, .int .i64 k] [] = some (.str (nm i k), h) := Classical.choose_spec (name_ex i k)
noncomputable def nameEx : FuncId → List AV → M AV
  | 118, [.int .i64 i, .int .i64 k], h => some (.str (nm i k), h)
  | _, _, _ => none
theorem nameEx_ok : CfSound Tryz.prog nameEx := by
  refine flat_sound (call_sound fs noEx fsOk noEx_sound) ?_
  intro f vs h v h' hr
  unfold nameEx at hr
  split at hr
  · cases hr; exact ⟨rfl, rfl, rfl, nm_call _ _⟩
  · cases hr
theorem rds_foot_lt {k : H} {es : Nat} {v : AV} {L : List (List AV)} (r : RdS k es v L) (h0 : L ≠ []) : ∀ c ∈ foot v, c < k.length := by
  rcases r with ⟨rfl, _⟩ | ⟨b, c, x, rfl, h⟩ | ⟨b, c, x, els, wr, ap, rfl, h2, _⟩
  · simp [foot]
  · exact absurd h h0
  · intro c hc; simp only [foot, List.mem_singleton] at hc; subst hc; exact (List.getElem?_eq_some_iff.1 h2).1
theorem set_at {α : Type} {A B : List α} {x y : α} {n : Nat} (h : n = A.length) : (A ++ x :: B).set n y = A ++ y :: B := by subst h; simp
end Go.Proofs.YtgnenipkebelfaaGreatDoor.Bk
namespace Go.Proofs.YtgnenipkebelfaaGreatDoor.Lz
open Go Go.Eng F Bk
noncomputable def ex3 : FuncId → List AV → M AV := fun f vs h => if [118].contains f then nameEx f vs h else noEx f vs h
theorem ex3_ok : CfSound Tryz.prog ex3 := join_sound [118] nameEx_ok noEx_sound
def fs3 := fsBut fs [118]
theorem fs3_ok : FsOk Tryz.prog fs3 := fsBut_ok fsOk _
theorem e3_name (i k : Int) (h : H) : call fs3 ex3 118 [.int .i64 i, .int .i64 k] h = some (.str (nm i k), h) := (call_ex fs3 ex3 rfl _ _).trans rfl
end Go.Proofs.YtgnenipkebelfaaGreatDoor.Lz
namespace Go.Proofs.YtgnenipkebelfaaGreatDoor.Bk
open Go Go.Eng F
theorem nm_eq (i k : Int) (h : H) : call Lz.fs3 Lz.ex3 118 [.int .i64 i, .int .i64 k] h = some (.str (nm i k), h) := Lz.e3_name i k h
end Go.Proofs.YtgnenipkebelfaaGreatDoor.Bk

/- A book of lists: items. -/
set_option maxRecDepth 100000
set_option linter.unusedVariables false
set_option linter.unusedSimpArgs false
namespace Go.Proofs.YtgnenipkebelfaaGreatDoor.BkI
open Go Go.Eng F Bk

abbrev It := List UInt8 × List UInt8
def itc (x : It) : List AV := [.str x.1, .str x.2]
def its (X : List It) : List (List AV) := X.map itc
theorem its_len (X : List It) : (its X).length = X.length := by simp [its]
theorem its_get (X : List It) {i : Nat} (h : i < X.length) : (its X)[i]? = some (itc X[i]) := by simp [its, h]
/-- Cells that are items. -/
def Reps (k : H) (L : List (List AV)) (X : List It) : Prop := L = its X
theorem Reps.keep {k k' : H} {L : List (List AV)} {X : List It} (r : Reps k L X) {F : List Nat} (hc : Chg k k' F) (hd : ∀ e ∈ L, ∀ a ∈ e, ∀ c ∈ foot0 a, c ∉ F) : Reps k' L X := r
theorem Reps.len {k : H} {L : List (List AV)} {X : List It} (r : Reps k L X) : L.length = X.length := by rw [r, its_len]
theorem Reps.size {k : H} {L : List (List AV)} {X : List It} (r : Reps k L X) : ∀ e ∈ L, e.length = 2 := by
  rw [r]
  intro e he
  simp only [its, List.mem_map] at he
  obtain ⟨x, _, rfl⟩ := he
  rfl
theorem its_scalar (X : List It) : ∀ e ∈ its X, ∀ a ∈ e, a.scalar = true := by
  intro e he a ha
  simp only [its, List.mem_map] at he
  obtain ⟨x, _, rfl⟩ := he
  simp only [itc, List.mem_cons, List.not_mem_nil, or_false] at ha
  rcases ha with rfl | rfl <;> rfl
theorem its_foot (X : List It) : ∀ e ∈ its X, ∀ a ∈ e, foot a = [] := by
  intro e he a ha
  simp only [its, List.mem_map] at he
  obtain ⟨x, _, rfl⟩ := he
  simp only [itc, List.mem_cons, List.not_mem_nil, or_false] at ha
  rcases ha with rfl | rfl <;> rfl
theorem Reps.lt0 {k : H} {L : List (List AV)} {X : List It} (r : Reps k L X) : ∀ e ∈ L, ∀ a ∈ e, ∀ z ∈ foot0 a, z < k.length := by
  intro e he a ha z hz
  rw [r] at he
  have hz := foot0_sub hz
  rw [its_foot X e he a ha] at hz
  cases hz
noncomputable def mk (i k : Nat) : List AV := itc (nm (i : Nat) (k : Nat), [])
noncomputable def marksX (i a : Nat) : Nat → List It
  | 0 => []
  | n + 1 => marksX i a n ++ [(nm (i : Nat) ((a + n : Nat) : Int), [])]
noncomputable def marks (i a : Nat) : Nat → List (List AV)
  | 0 => []
  | n + 1 => marks i a n ++ [mk i (a + n)]
theorem marks_its (i a : Nat) : ∀ n, marks i a n = its (marksX i a n)
  | 0 => rfl
  | n + 1 => by rw [marks, marksX, marks_its i a n]; simp [its, mk]
theorem marks_reps (k : H) (i a n : Nat) : Reps k (marks i a n) (marksX i a n) := marks_its i a n
theorem mk_len (i k : Nat) : (mk i k).length = 2 := rfl
set_option maxHeartbeats 4000000 in
theorem same_its {k : H} {v w : AV} {X : List It} (hv : RdS k 2 v (its X)) (hw : RdS k 2 w (its X)) (hlen : X.length < 4611686018427387904) : call Lz.fs3 Lz.ex3 37 [v, w] k = some (.bool true, k) := by
  suffices hs : Yld (call Lz.fs3 Lz.ex3 37 [v, w] k) fun r => r = (.bool true, k) by
    obtain ⟨r, e, rfl⟩ := hs
    exact e
  refine yld_shut fun Q hQ => ?_
  rw [call_eq Lz.fs3 Lz.ex3 (f := 37) (sf := sf37) rfl]
  have lv := hv.len
  have lw := hw.len
  rw [its_len] at lv lw
  simp [sf37, Lt.evB, recheck, wantsOp, AV.same, sames, eqCells, eqLeaf, toL_some, asc, fzero, fnone, List.map_cons, List.map_nil, resVals, resVal, resOf, partV, fillA, putCells, fillEls, strBin, minV, optNat, appendEls, elsOf, sliceSlV, sliceStrV, List.replicate, List.getElem?_append_left, List.getElem?_append_right, List.set_append_left, List.set_append_right, List.getElem?_set_self, List.getElem?_set_ne, lv, lw]
  repeat (first | apply yld_endFn | apply yld_seqK | apply yld_blockK | apply yld_regK | apply yld_opsK | apply yld_putK | apply yld_stgK | apply yld_chkK)
  refine yld_rounds (fun m e k' => ∃ f j, e = toL 27 f ∧ m = X.length - j ∧ j ≤ X.length ∧ f 0 = v ∧ f 1 = w ∧ f 5 = .int .i64 (j : Nat) ∧ k' = k) (X.length - 0) ?_ ?_
  · exact ⟨_, 0, rfl, rfl, Nat.zero_le _, rfl, rfl, rfl, rfl⟩
  · rintro J R hJ hR m e k' ⟨f, j, rfl, rfl, hj, f0, f1, f5, rfl⟩
    by_cases hjn : j < X.length
    · have d0 : decide ((j : Int) < (X.length : Nat)) = true := dec_true (by omega)
      have hwj : IntKind.i64.wrap ((j : Int) + 1) = ((j + 1 : Nat) : Int) := wrap_i64 (by omega) (by omega)
      obtain ⟨iv, gv⟩ := hv.idx (i := j) (by rw [its_len]; exact hjn)
      obtain ⟨iw, gw⟩ := hw.idx (i := j) (by rw [its_len]; exact hjn)
      rw [its_get X hjn] at gv gw
      simp only [itc] at gv gw
      simp [Lt.evB, recheck, wantsOp, AV.same, sames, eqCells, eqLeaf, toL_some, asc, fzero, fnone, List.map_cons, List.map_nil, resVals, resVal, resOf, partV, fillA, putCells, fillEls, strBin, minV, optNat, appendEls, elsOf, sliceSlV, sliceStrV, List.replicate, List.getElem?_append_left, List.getElem?_append_right, List.set_append_left, List.set_append_right, List.getElem?_set_self, List.getElem?_set_ne, f0, f1, f5, lv, lw, iv, iw, gv, gw, d0, hjn, hwj]
      exact ⟨X.length - (j + 1), by omega, hJ _ _ _ ⟨_, j + 1, rfl, rfl, hjn, rfl, rfl, rfl, rfl⟩⟩
    · have d0 : decide ((j : Int) < (X.length : Nat)) = false := dec_false (by omega)
      simp [Lt.evB, recheck, wantsOp, AV.same, sames, eqCells, eqLeaf, toL_some, asc, fzero, fnone, List.map_cons, List.map_nil, resVals, resVal, resOf, partV, fillA, putCells, fillEls, strBin, minV, optNat, appendEls, elsOf, sliceSlV, sliceStrV, List.replicate, List.getElem?_append_left, List.getElem?_append_right, List.set_append_left, List.set_append_right, List.getElem?_set_self, List.getElem?_set_ne, f0, f1, f5, lv, lw, d0, hjn]
      refine hR _ ?_
      simp [Lt.evB, recheck, wantsOp, AV.same, sames, eqCells, eqLeaf, toL_some, asc, fzero, fnone, List.map_cons, List.map_nil, resVals, resVal, resOf, partV, fillA, putCells, fillEls, strBin, minV, optNat, appendEls, elsOf, sliceSlV, sliceStrV, List.replicate, List.getElem?_append_left, List.getElem?_append_right, List.set_append_left, List.set_append_right, List.getElem?_set_self, List.getElem?_set_ne, f0, f1, f5]
      exact hQ _ rfl
theorem same_call {k : H} {v w : AV} {L M : List (List AV)} {X : List It} (hv : RdS k 2 v L) (hw : RdS k 2 w M) (hL : Reps k L X) (hM : Reps k M X) (hlen : X.length < 4611686018427387904) : Yld (call Lz.fs3 Lz.ex3 37 [v, w] k) fun r => ∃ k', r = (.bool true, k') ∧ Chg k k' [] := by
  unfold Reps at hL hM
  subst hL hM
  exact ⟨_, same_its hv hw hlen, k, rfl, Chg.refl _ _⟩
set_option maxHeartbeats 4000000 in
theorem mark_call {i a n : Nat} (hi : i ≤ 1000) (ha : a ≤ 100000) (hn : n ≤ 100000) (k : H) :
    Yld (call Lz.fs3 Lz.ex3 106 [.int .i64 (i : Nat), .int .i64 (a : Nat), .int .i64 (n : Nat)] k) fun r => ∃ v k', r = (v, k') ∧ OwnE k' 2 v (marks i a n) ∧ Chg k k' [] ∧ ∀ c ∈ foot v, k.length ≤ c := by
  refine yld_shut fun Q hQ => ?_
  rw [call_eq Lz.fs3 Lz.ex3 (f := 106) (sf := sf106) rfl]
  have hw1 : IntKind.i64.wrap ((a : Int) + (n : Int)) = ((a + n : Nat) : Int) := by rw [wrap_i64 (by omega) (by omega)]; omega
  have marks_len : ∀ n, (marks i a n).length = n := by
    intro n
    induction n with
    | zero => rfl
    | succ n ih => simp [marks, ih]
  simp [sf106, Lt.evB, recheck, wantsOp, AV.same, sames, eqCells, eqLeaf, toL_some, asc, fzero, fnone, List.map_cons, List.map_nil, resVals, resVal, resOf, partV, fillA, putCells, fillEls, strBin, minV, optNat, appendEls, elsOf, sliceSlV, sliceStrV, List.replicate, List.getElem?_append_left, List.getElem?_append_right, List.set_append_left, List.set_append_right, List.getElem?_set_self, List.getElem?_set_ne]
  repeat (first | apply yld_endFn | apply yld_seqK | apply yld_blockK | apply yld_regK | apply yld_opsK | apply yld_putK | apply yld_stgK | apply yld_chkK)
  refine yld_rounds (fun m e k' => ∃ f j vo, e = toL 25 f ∧ m = n - j ∧ j ≤ n ∧ f 0 = .int .i64 (i : Nat) ∧ f 1 = .int .i64 (a : Nat) ∧ f 2 = .int .i64 (n : Nat) ∧ f 7 = vo ∧ f 8 = .int .i64 ((a + j : Nat) : Int) ∧ OwnE k' 2 vo (marks i a j) ∧ Chg k k' [] ∧ (∀ c ∈ foot vo, k.length ≤ c)) (n - 0) ?_ ?_
  · exact ⟨_, 0, .nilslice, rfl, rfl, Nat.zero_le _, rfl, rfl, rfl, rfl, rfl, .inl ⟨rfl, rfl⟩, Chg.refl _ _, by simp [foot]⟩
  · rintro J R hJ hR m e k' ⟨f, j, vo, rfl, rfl, hj, f0, f1, f2, f7, f8, ho, hch, hft⟩
    by_cases hjn : j < n
    · have d0 : decide (((a + j : Nat) : Int) < ((a + n : Nat) : Int)) = true := dec_true (by omega)
      have d1 : decide (a + j < a + n) = true := dec_true (by omega)
      have w5 : IntKind.i64.wrap (((a + j : Nat) : Int) + 1) = ((a + (j + 1) : Nat) : Int) := by rw [wrap_i64 (by omega) (by omega)]; omega
      have e79 := nm_eq (i : Nat) ((a + j : Nat) : Int) k'
      have hmk : mk i (a + j) = [.str (nm (i : Nat) ((a + j : Nat) : Int)), .str []] := rfl
      generalize nm (i : Nat) ((a + j : Nat) : Int) = s at e79 hmk
      have ho1 := own_app1 (k := [.row 2 [[.str s, .str []]] true true]) ho
      obtain ⟨v', k2, e9, ho2, hch2, hf2⟩ := ownE_append (es := 2) (X := [[.str s, .str []]]) ho1 (x := .slice k'.length 2 0 1 1 true) (.inr <| .inr ⟨k'.length, 1, true, [[.str s, .str []]], true, true, rfl, by simp, rfl, by simp⟩) (by simp) (by simp [AV.scalar]) (by rw [marks_len]; simp; omega)
      generalize haj : a + j = aj at d0 d1 w5 f8 e79 hmk
      generalize hajn : a + (j + 1) = aj1 at w5
      generalize han : a + n = an at d0 d1 hw1
      simp [Lt.evB, recheck, wantsOp, AV.same, sames, eqCells, eqLeaf, toL_some, asc, fzero, fnone, List.map_cons, List.map_nil, resVals, resVal, resOf, partV, fillA, putCells, fillEls, strBin, minV, optNat, appendEls, elsOf, sliceSlV, sliceStrV, List.replicate, List.getElem?_append_left, List.getElem?_append_right, List.set_append_left, List.set_append_right, List.getElem?_set_self, List.getElem?_set_ne, f0, f1, f2, f7, f8, hw1, d0, d1, w5, e79, e9]
      refine ⟨n - (j + 1), by omega, hJ _ _ _ ⟨_, j + 1, v', rfl, rfl, by omega, rfl, rfl, rfl, rfl, by rw [hajn]; rfl, ?_, ?_, ?_⟩⟩
      · rw [marks, haj, hmk]; exact ho2
      · exact (hch.trans (Chg.app k' _ []) (by simp)).trans hch2 (fun c hc => .inr (hft c hc))
      · intro c hc
        have := hf2 c hc
        have := hch.1
        simp at *; omega
    · have : j = n := by omega
      subst this
      have d0 : decide (((a + j : Nat) : Int) < ((a + j : Nat) : Int)) = false := dec_false (by omega)
      have d1 : decide (a + j < a + j) = false := dec_false (by omega)
      generalize a + j = an at *
      simp [Lt.evB, recheck, wantsOp, AV.same, sames, eqCells, eqLeaf, toL_some, asc, fzero, fnone, List.map_cons, List.map_nil, resVals, resVal, resOf, partV, fillA, putCells, fillEls, strBin, minV, optNat, appendEls, elsOf, sliceSlV, sliceStrV, List.replicate, List.getElem?_append_left, List.getElem?_append_right, List.set_append_left, List.set_append_right, List.getElem?_set_self, List.getElem?_set_ne, f0, f1, f2, f7, f8, hw1, d0, d1]
      refine hR _ ?_
      simp [Lt.evB, recheck, wantsOp, AV.same, sames, eqCells, eqLeaf, toL_some, asc, fzero, fnone, List.map_cons, List.map_nil, resVals, resVal, resOf, partV, fillA, putCells, fillEls, strBin, minV, optNat, appendEls, elsOf, sliceSlV, sliceStrV, List.replicate, List.getElem?_append_left, List.getElem?_append_right, List.set_append_left, List.set_append_right, List.getElem?_set_self, List.getElem?_set_ne, f0, f1, f2, f7, f8]
      exact hQ _ ⟨_, _, rfl, ho, hch, hft⟩
/-- A copy of items. -/
theorem copy_its {k : H} {v : AV} {X : List It} (hx : RdS k 2 v (its X)) (hlen : X.length * 48 ≤ 281474976710656) :
    Yld (call Lz.fs3 Lz.ex3 18 [v] k) fun r => ∃ c k', r = (c, k') ∧ OwnE k' 2 c (its X) ∧ Chg k k' [] ∧ (∀ x ∈ foot c, k.length ≤ x) := by
  obtain ⟨c, k', e, o, ch, f⟩ := nil_appendW hx (its_scalar X) (.inr (by rw [its_len]; omega))
  rw [call_eq Lz.fs3 Lz.ex3 (f := 18) (sf := sf18) rfl]
  simp [sf18, Lt.evB, recheck, wantsOp, AV.same, sames, eqCells, eqLeaf, toL_some, asc, fzero, fnone, List.map_cons, List.map_nil, resVals, resVal, resOf, partV, fillA, putCells, fillEls, strBin, minV, optNat, appendEls, elsOf, sliceSlV, sliceStrV, List.replicate, List.getElem?_append_left, List.getElem?_append_right, List.set_append_left, List.set_append_right, List.getElem?_set_self, List.getElem?_set_ne, e]
  exact ⟨c, k', ⟨rfl, rfl⟩, o, ch, f⟩
theorem copy_call {k : H} {v : AV} {L : List (List AV)} {X : List It} (hx : RdS k 2 v L) (hL : Reps k L X) (hlen : X.length ≤ 100000) :
    Yld (call Lz.fs3 Lz.ex3 18 [v] k) fun r => ∃ c k' M, r = (c, k') ∧ OwnE k' 2 c M ∧ Reps k' M X ∧ Chg k k' [] ∧ (∀ x ∈ foot c, k.length ≤ x) ∧ (∀ e ∈ M, ∀ a ∈ e, ∀ x ∈ foot0 a, k.length ≤ x ∧ x ∉ foot c) := by
  unfold Reps at hL
  subst hL
  refine (copy_its hx (by omega)).mono ?_
  rintro r ⟨c, k', rfl, o, ch, f⟩
  exact ⟨c, k', its X, rfl, o, rfl, ch, f, fun e he a ha x hx => by have hx := foot0_sub hx; rw [its_foot X e he a ha] at hx; cases hx⟩
end Go.Proofs.YtgnenipkebelfaaGreatDoor.BkI

/- A book of lists: its block; what lies apart. (written by genbk.py) -/
set_option maxRecDepth 100000
set_option linter.unusedVariables false
set_option linter.unusedSimpArgs false
namespace Go.Proofs.YtgnenipkebelfaaGreatDoor.Bk
open Go Go.Eng F

def bookB (pi wi pl wl : AV) : Blk := .row 14 [[.nilslice, .nilslice, .nilslice, .nilslice, .nilslice, .nilslice, pi, wi, .nilslice, .nilslice, .nilslice, .nilslice, pl, wl]] true true
def feet (vs : List AV) : List Nat := vs.flatMap foot
theorem mem_feet {vs : List AV} {i : Nat} (h : i < vs.length) {c : Nat} (hc : c ∈ foot vs[i]) : c ∈ feet vs := List.mem_flatMap.2 ⟨_, List.getElem_mem _, hc⟩
/-- The lists lie apart, and from the book. -/
structure Apt (g : Nat) (pv : AV) (vs : List AV) : Prop where
  gv : ∀ i (h : i < vs.length), g ∉ foot vs[i]
  pv : ∀ i (h : i < vs.length), ∀ c ∈ foot pv, c ∉ foot vs[i]
  vv : ∀ i j (hi : i < vs.length) (hj : j < vs.length), i ≠ j → ∀ c ∈ foot vs[i], c ∉ foot vs[j]
theorem Apt.g_feet {g : Nat} {pv : AV} {vs : List AV} (a : Apt g pv vs) : g ∉ feet vs := by
  intro h
  obtain ⟨v, hv, hc⟩ := List.mem_flatMap.1 h
  obtain ⟨i, hi, rfl⟩ := List.mem_iff_getElem.1 hv
  exact a.gv i hi hc
theorem Apt.p_feet {g : Nat} {pv : AV} {vs : List AV} (a : Apt g pv vs) : ∀ c ∈ foot pv, c ∉ feet vs := by
  intro c hp h
  obtain ⟨v, hv, hc⟩ := List.mem_flatMap.1 h
  obtain ⟨i, hi, rfl⟩ := List.mem_iff_getElem.1 hv
  exact a.pv i hi c hp hc
end Go.Proofs.YtgnenipkebelfaaGreatDoor.Bk

/- A book of lists: items: marked, still, put, grown. (written by genbk.py) -/
set_option maxRecDepth 100000
set_option linter.unusedVariables false
set_option linter.unusedSimpArgs false
namespace Go.Proofs.YtgnenipkebelfaaGreatDoor.BkI
open Go Go.Eng F Bk BkI

theorem marks_len (i a : Nat) : ∀ n, (marks i a n).length = n
  | 0 => rfl
  | n + 1 => by simp [marks, marks_len i a n]
theorem marks_add (i a n : Nat) : ∀ m, marks i a (n + m) = marks i a n ++ marks i (a + n) m
  | 0 => by simp [marks]
  | m + 1 => by rw [← Nat.add_assoc, marks, marks_add i a n m, marks, List.append_assoc, Nat.add_assoc]
theorem marks_scalar (i a : Nat) (n : Nat) : ∀ e ∈ marks i a n, ∀ x ∈ e, x.scalar = true := by rw [marks_its]; exact its_scalar _
theorem marks_get (i a : Nat) : ∀ n j, j < n → (marks i a n)[j]? = some (mk i (a + j))
  | 0, j, h => by omega
  | n + 1, j, h => by
    simp only [marks]
    by_cases hj : j < n
    · rw [List.getElem?_append_left (by rw [marks_len]; exact hj)]; exact marks_get i a n j hj
    · have : j = n := by omega
      subst this
      rw [List.getElem?_append_right (by rw [marks_len]; exact Nat.le_refl _), marks_len]; simp
theorem marksX_len (i a n : Nat) : (marksX i a n).length = n := by rw [← (marks_reps [] i a n).len, marks_len]
set_option maxHeartbeats 4000000 in
theorem marked_call {k : H} {g : AV} {us : List AV} {N : Nat → Nat} (hg : RdS k 1 g (us.map fun u => [u])) (hlen : us.length ≤ 250) (hN : ∀ i, N i ≤ 100000) (hu : ∀ i (h : i < us.length), RdS k 2 us[i] (marks i 0 (N i))) :
    Yld (call Lz.fs3 Lz.ex3 68 [g] k) fun r => ∃ k', r = (.bool true, k') ∧ Chg k k' [] := by
  refine yld_shut fun Q hQ => ?_
  rw [call_eq Lz.fs3 Lz.ex3 (f := 68) (sf := sf68) rfl]
  have lg := hg.len
  simp only [List.length_map] at lg
  simp [sf68, Lt.evB, recheck, wantsOp, AV.same, sames, eqCells, eqLeaf, toL_some, asc, fzero, fnone, List.map_cons, List.map_nil, resVals, resVal, resOf, partV, fillA, putCells, fillEls, strBin, minV, optNat, appendEls, elsOf, sliceSlV, sliceStrV, List.replicate, List.getElem?_append_left, List.getElem?_append_right, List.set_append_left, List.set_append_right, List.getElem?_set_self, List.getElem?_set_ne, lg]
  repeat (first | apply yld_endFn | apply yld_seqK | apply yld_blockK | apply yld_regK | apply yld_opsK | apply yld_putK | apply yld_stgK | apply yld_chkK)
  refine yld_rounds (fun m e k' => ∃ f j, e = toL 23 f ∧ m = us.length - j ∧ j ≤ us.length ∧ f 0 = g ∧ f 3 = .int .i64 (j : Nat) ∧ Chg k k' []) (us.length - 0) ?_ ?_
  · exact ⟨_, 0, rfl, rfl, Nat.zero_le _, rfl, rfl, Chg.refl _ _⟩
  · rintro J R hJ hR m e k' ⟨f, j, rfl, rfl, hj, f0, f3, hch⟩
    by_cases hjn : j < us.length
    · have d0 : decide ((j : Int) < (us.length : Nat)) = true := dec_true (by omega)
      have hwj : IntKind.i64.wrap ((j : Int) + 1) = ((j + 1 : Nat) : Int) := wrap_i64 (by omega) (by omega)
      have hg1 := hg.keep hch (by simp)
      obtain ⟨ig, gg⟩ := hg1.idx (i := j) (by simpa using hjn)
      have hx2 : (us.map fun u => [u])[j]? = some [us[j]] := by simp [hjn]
      rw [hx2] at gg
      have hu1 := (hu j hjn).keep hch (by simp)
      have hnj := hN j
      generalize N j = n at hu1 hnj
      have lu := hu1.len
      rw [marks_len] at lu
      have su := hu1.cells
      obtain ⟨⟨w, k1⟩, e62, v', k2, hr, ho, hc2, hf2⟩ := mark_call (i := j) (a := 0) (n := n) (by omega) (by omega) hnj k'
      cases hr
      have hu2 := hu1.keep hc2 (by simp)
      have hg2 := hg1.keep hc2 (by simp)
      obtain ⟨ig2, gg2⟩ := hg2.idx (i := j) (by simpa using hjn)
      rw [hx2] at gg2
      obtain ⟨⟨w, k3⟩, e18, _, hr, hc3⟩ := same_call hu2 ho.grow.rds (marks_reps _ j 0 n) (marks_reps _ j 0 n) (by rw [marksX_len]; omega)
      cases hr
      generalize us[j] = u at *
      simp only [Int.natCast_zero] at e62
      simp [Lt.evB, recheck, wantsOp, AV.same, sames, eqCells, eqLeaf, toL_some, asc, fzero, fnone, List.map_cons, List.map_nil, resVals, resVal, resOf, partV, fillA, putCells, fillEls, strBin, minV, optNat, appendEls, elsOf, sliceSlV, sliceStrV, List.replicate, List.getElem?_append_left, List.getElem?_append_right, List.set_append_left, List.set_append_right, List.getElem?_set_self, List.getElem?_set_ne, f0, f3, lg, ig, gg, gg2, d0, hjn, hwj, lu, e62, e18, su.1, su.2.1, su.2.2]
      exact ⟨us.length - (j + 1), by omega, hJ _ _ _ ⟨_, j + 1, rfl, rfl, hjn, rfl, rfl, (hch.trans hc2 (by simp)).trans hc3 (by simp)⟩⟩
    · have d0 : decide ((j : Int) < (us.length : Nat)) = false := dec_false (by omega)
      simp [Lt.evB, recheck, wantsOp, AV.same, sames, eqCells, eqLeaf, toL_some, asc, fzero, fnone, List.map_cons, List.map_nil, resVals, resVal, resOf, partV, fillA, putCells, fillEls, strBin, minV, optNat, appendEls, elsOf, sliceSlV, sliceStrV, List.replicate, List.getElem?_append_left, List.getElem?_append_right, List.set_append_left, List.set_append_right, List.getElem?_set_self, List.getElem?_set_ne, f0, f3, lg, d0, hjn]
      refine hR _ ?_
      simp [Lt.evB, recheck, wantsOp, AV.same, sames, eqCells, eqLeaf, toL_some, asc, fzero, fnone, List.map_cons, List.map_nil, resVals, resVal, resOf, partV, fillA, putCells, fillEls, strBin, minV, optNat, appendEls, elsOf, sliceSlV, sliceStrV, List.replicate, List.getElem?_append_left, List.getElem?_append_right, List.set_append_left, List.set_append_right, List.getElem?_set_self, List.getElem?_set_ne, f0, f3]
      exact hQ _ ⟨_, rfl, hch⟩
set_option maxHeartbeats 4000000 in
theorem still_call {k : H} {g : Nat} {pi wi pl wl : AV} {vs ws : List AV} {Ls Ms : Nat → List (List AV)} {Xs : Nat → List It} (hg : k[g]? = some (bookB pi wi pl wl)) (hp : RdS k 1 pi (vs.map fun u => [u])) (hw : RdS k 1 wi (ws.map fun u => [u])) (hlen : vs.length ≤ 250)
    (h2 : ws.length = vs.length) (hv : ∀ i (h : i < vs.length), RdS k 2 vs[i] (Ls i) ∧ Reps k (Ls i) (Xs i)) (hu : ∀ i (h : i < ws.length), RdS k 2 ws[i] (Ms i) ∧ Reps k (Ms i) (Xs i)) (hi : ∀ i, (Xs i).length < 4294967296) :
    Yld (call Lz.fs3 Lz.ex3 47 [.ptr g 0 0] k) fun r => ∃ k', r = (.bool true, k') ∧ Chg k k' [] := by
  refine yld_shut fun Q hQ => ?_
  rw [call_eq Lz.fs3 Lz.ex3 (f := 47) (sf := sf47) rfl]
  have lg := hp.len
  simp only [List.length_map] at lg
  unfold bookB at hg
  simp [sf47, Lt.evB, recheck, wantsOp, AV.same, sames, eqCells, eqLeaf, toL_some, asc, fzero, fnone, List.map_cons, List.map_nil, resVals, resVal, resOf, partV, fillA, putCells, fillEls, strBin, minV, optNat, appendEls, elsOf, sliceSlV, sliceStrV, List.replicate, List.getElem?_append_left, List.getElem?_append_right, List.set_append_left, List.set_append_right, List.getElem?_set_self, List.getElem?_set_ne, lg]
  repeat (first | apply yld_endFn | apply yld_seqK | apply yld_blockK | apply yld_regK | apply yld_opsK | apply yld_putK | apply yld_stgK | apply yld_chkK)
  refine yld_rounds (fun m e k' => ∃ f j, e = toL 29 f ∧ m = vs.length - j ∧ j ≤ vs.length ∧ f 0 = .ptr g 0 0 ∧ f 3 = .int .i64 (j : Nat) ∧ Chg k k' []) (vs.length - 0) ?_ ?_
  · exact ⟨_, 0, rfl, rfl, Nat.zero_le _, rfl, rfl, Chg.refl _ _⟩
  · rintro J R hJ hR m e k' ⟨f, j, rfl, rfl, hj, f0, f3, hch⟩
    have hgB := hg
    have hg := hch.2 g _ (by simp) hgB
    by_cases hjn : j < vs.length
    · have d0 : decide ((j : Int) < (vs.length : Nat)) = true := dec_true (by omega)
      have hwj : IntKind.i64.wrap ((j : Int) + 1) = ((j + 1 : Nat) : Int) := wrap_i64 (by omega) (by omega)
      obtain ⟨ip, gp⟩ := (hp.keep hch (by simp)).idx (i := j) (by simpa using hjn)
      have hx2 : (vs.map fun u => [u])[j]? = some [vs[j]] := by simp [hjn]
      rw [hx2] at gp
      have hjw : j < ws.length := by omega
      obtain ⟨iw, gw⟩ := (hw.keep hch (by simp)).idx (i := j) (by simpa using hjw)
      have hx3 : (ws.map fun u => [u])[j]? = some [ws[j]] := by simp [hjw]
      rw [hx3] at gw
      have su := (hv j hjn).1.cells
      have sw := (hu j hjw).1.cells
      obtain ⟨⟨w, k3⟩, e18, _, hr, hc3⟩ := same_call ((hv j hjn).1.keep hch (by simp)) ((hu j hjw).1.keep hch (by simp)) ((hv j hjn).2.keep hch (by simp)) ((hu j hjw).2.keep hch (by simp)) (by have := hi j; omega)
      cases hr
      generalize vs[j] = u at *
      generalize ws[j] = uw at *
      simp [Lt.evB, recheck, wantsOp, AV.same, sames, eqCells, eqLeaf, toL_some, asc, fzero, fnone, List.map_cons, List.map_nil, resVals, resVal, resOf, partV, fillA, putCells, fillEls, strBin, minV, optNat, appendEls, elsOf, sliceSlV, sliceStrV, List.replicate, List.getElem?_append_left, List.getElem?_append_right, List.set_append_left, List.set_append_right, List.getElem?_set_self, List.getElem?_set_ne, f0, f3, lg, hg, get_app hg, set_app hg, get_set_same hg, get_set_app hg, set_set_app hg, len_beq hg, beq_len hg, ip, gp, iw, gw, d0, hjn, hwj, e18, su.1, su.2.1, su.2.2, sw.1, sw.2.1, sw.2.2]
      exact ⟨vs.length - (j + 1), by omega, hJ _ _ _ ⟨_, j + 1, rfl, rfl, hjn, rfl, rfl, hch.trans hc3 (by simp)⟩⟩
    · have d0 : decide ((j : Int) < (vs.length : Nat)) = false := dec_false (by omega)
      simp [Lt.evB, recheck, wantsOp, AV.same, sames, eqCells, eqLeaf, toL_some, asc, fzero, fnone, List.map_cons, List.map_nil, resVals, resVal, resOf, partV, fillA, putCells, fillEls, strBin, minV, optNat, appendEls, elsOf, sliceSlV, sliceStrV, List.replicate, List.getElem?_append_left, List.getElem?_append_right, List.set_append_left, List.set_append_right, List.getElem?_set_self, List.getElem?_set_ne, f0, f3, lg, hg, get_app hg, set_app hg, get_set_same hg, get_set_app hg, set_set_app hg, len_beq hg, beq_len hg, d0, hjn]
      refine hR _ ?_
      simp [Lt.evB, recheck, wantsOp, AV.same, sames, eqCells, eqLeaf, toL_some, asc, fzero, fnone, List.map_cons, List.map_nil, resVals, resVal, resOf, partV, fillA, putCells, fillEls, strBin, minV, optNat, appendEls, elsOf, sliceSlV, sliceStrV, List.replicate, List.getElem?_append_left, List.getElem?_append_right, List.set_append_left, List.set_append_right, List.getElem?_set_self, List.getElem?_set_ne, f0, f3]
      exact hQ _ ⟨_, rfl, hch⟩
set_option maxHeartbeats 4000000 in
/-- One list is marked. -/
theorem put_loop {lv : List Nat} {body : SCode} (hb : (loopsAll sf56.body)[1]? = some (lv, body)) {f : Nat → AV} {k : H} {g i : Nat} {pi wi pl wl v ms : AV} {vs : List AV} {L : List (List AV)}
    (hg : k[g]? = some (bookB pi wi pl wl)) (hp : RdS k 1 pi (vs.map fun u => [u])) (hi : i < vs.length) (hvi : vs[i] = v) (ho : OwnE k 2 v L) (hm : RdS k 2 ms (marks i 0 L.length)) (hlen : L.length < 100000) (hL : ∀ e ∈ L, e.length = 2)
    (d1 : g ∉ foot v) (d2 : ∀ c ∈ foot pi, c ∉ foot v) (d3 : ∀ c ∈ foot ms, c ∉ foot v)
    (f0 : f 0 = .ptr g 0 0) (f2 : f 2 = .int .i64 (i : Nat)) (f3 : f 3 = ms) (f4 : f 4 = .int .i64 0) {R : (Ex × Env) × H → Prop}
    (hR : ∀ f' k', f' 0 = .ptr g 0 0 → f' 2 = .int .i64 (i : Nat) → OwnE k' 2 v (marks i 0 L.length) → Chg k k' (foot v) → R ((.exit 2, toL 43 f'), k')) :
    Yld (itw (fun env => exec (call Lz.fs3 Lz.ex3) itw body (keepFrom lv 0 env)) (toL 43 f) k) R := by
  simp [sf56, loopsAll] at hb
  obtain ⟨rfl, rfl⟩ := hb
  have lm := hm.len
  rw [marks_len] at lm
  unfold bookB at hg
  refine yld_rounds (fun m e k' => ∃ f j, e = toL 43 f ∧ m = L.length - j ∧ j ≤ L.length ∧ f 0 = .ptr g 0 0 ∧ f 2 = .int .i64 (i : Nat) ∧ f 3 = ms ∧ f 4 = .int .i64 (j : Nat) ∧ OwnE k' 2 v (marks i 0 j ++ L.drop j) ∧ Chg k k' (foot v)) (L.length - 0) ?_ ?_
  · exact ⟨_, 0, rfl, rfl, Nat.zero_le _, f0, f2, f3, f4, by simpa [marks] using ho, Chg.refl _ _⟩
  · clear f0 f2 f3 f4 ho
    rintro J R' hJ hR' m e k' ⟨f, j, rfl, rfl, hj, f0, f2, f3, f4, ho, hch⟩
    by_cases hjn : j < L.length
    · have d0 : decide ((j : Int) < (L.length : Nat)) = true := dec_true (by omega)
      have hwj : IntKind.i64.wrap ((j : Int) + 1) = ((j + 1 : Nat) : Int) := wrap_i64 (by omega) (by omega)
      have hg1 := hch.2 g _ d1 hg
      obtain ⟨ip, gp⟩ := (hp.keep hch d2).idx (i := i) (by simpa using hi)
      have hx2 : (vs.map fun u => [u])[i]? = some [v] := by simp [hi, hvi]
      rw [hx2] at gp
      obtain ⟨im, gm⟩ := (hm.keep hch d3).idx (i := j) (by rw [marks_len]; exact hjn)
      rw [marks_get i 0 L.length j hjn] at gm
      have hx := hL L[j] (List.getElem_mem _)
      have hxs : (marks i 0 j ++ L.drop j).set j (mk i (0 + j)) = marks i 0 (j + 1) ++ L.drop (j + 1) := by
        rw [List.set_append_right _ _ (by rw [marks_len]; exact Nat.le_refl _), marks_len, Nat.sub_self, List.drop_eq_getElem_cons hjn, List.set_cons_zero]
        simp [marks]
      have hxg : (marks i 0 j ++ L.drop j)[j]? = some L[j] := by
        rw [List.getElem?_append_right (by rw [marks_len]; exact Nat.le_refl _), marks_len, Nat.sub_self, List.drop_eq_getElem_cons hjn]; rfl
      have hll : (marks i 0 j ++ L.drop j).length = L.length := by simp [marks_len]; omega
      generalize marks i 0 j ++ L.drop j = E at ho hxs hxg hll
      have hjE : j < E.length := by omega
      have hxe : E[j] = L[j] := by
        have h0 := List.getElem?_eq_getElem hjE
        rw [hxg] at h0; exact (Option.some.inj h0).symm
      rcases ho with ⟨_, h0⟩ | ⟨b, c, xx, hv, hb, hc⟩
      · rw [h0] at hll; simp at hll; omega
      · rw [hll] at hv hc
        have hne : b ≠ g := by rintro rfl; rw [hv] at d1; simp [foot] at d1
        have hbv : b ∈ foot v := by rw [hv]; simp [foot]
        have hlo : (marks i 0 (j + 1) ++ L.drop (j + 1)).length = L.length := by simp [marks_len]; omega
        rw [hv] at gp
        simp only [mk, itc] at hxs gm
        generalize L[j] = y at *
        have hpc : ∀ cs : List AV, cs.length = 2 → putCells y 0 cs = cs := fun cs h => putCells_all (by rw [h, hx])
        simp [yld_some, exec_reg, exec_dreg, exec_seq, exec_cond, exec_block, exec_scope, exec_exit, exec_ret, exec_skip, exec_loop, ops_nil, ops_cons, ops_cons_gd, stages_nil, stages_cons_n, stages_cons_h, recheck, wantsOp, AV.same, sames, evalOp_p, evalOp_r, evalOp_a, evalOp_call, evalOp_callV, evalOp_store, evalOp_append, evalOp_clear, evalOp_mapUpdate, evalOp_delete, pP_move, pP_pick, pP_build, pP_nil_ptr, pP_nil_func, pP_bin, pP_eq, pP_neg, pP_inv, pP_not, pP_convInt, pP_convStr, pP_fieldAddr, pP_field, pP_indexAddr, pP_indexStr, pP_sliceStr, pP_sliceSl, pP_lenStr, pP_lenNil, pP_lenSl, pP_min, pP_max, pP_extract, pP_mkfn, bV_add, bV_sub, bV_mul, bV_quo, bV_rem, bV_and, bV_or, bV_xor, bV_andNot, bV_eql, bV_neq, bV_lss, bV_leq, bV_gtr, bV_geq, bV_shl, bV_shr, bV_str, eV_bool, eV_nn, eV_np, eV_pn, eV_snn, eV_sns, eV_ssn, eV_mnn, eV_mnm, eV_mmn, eV_fnn, eV_fnf, eV_ffn, eV_agg, rP_load, rP_lenNil, rP_str0, rdEl_K, rdK_row, rdK_bld, aP_newBld, aP_alloc, aP_box, aP_buildSlice, aP_makeSlice, aP_makeMap, aP_toBytes, hP_store, storeK_some, st_K, stK_row, stE_some, cells_agg, cells_bool, scalar_bool, cells_int, scalar_int, cells_str, scalar_str, cells_nilptr, scalar_nilptr, cells_ptr, scalar_ptr, cells_nilslice, scalar_nilslice, cells_slice, scalar_slice, cells_nilmap, scalar_nilmap, cells_map, scalar_map, cells_nilfunc, scalar_nilfunc, cells_func, scalar_func, eqCells, eqLeaf, run_toL, toL_some, ev_toL, getD_toL, put_toL, keep_toL, asc, fput_same, fput_ne, fbase_nil, fbase_cons, fkeep_nil, fkeep_cons, fzero, fnone, List.map_cons, List.map_nil, ev_lit, put_none, resVals, resVal, resOf, partV, fillA, fillEls, strBin, minV, optNat, appendEls, elsOf, sliceSlV, sliceStrV, List.replicate, List.getElem?_append_left, List.getElem?_append_right, List.set_append_left, List.set_append_right, List.getElem?_set_self, List.getElem?_set_ne, hq_get0, hq_get, hp_get0, hp_get, hp_set0, hp_set, hpc, hx, f0, f2, f3, f4, lm, ip, gp, im, gm, hg1, get_app hg1, set_app hg1, get_set_same hg1, get_set_app hg1, set_set_app hg1, len_beq hg1, beq_len hg1, hb, get_app hb, set_app hb, get_set_same hb, get_set_app hb, set_set_app hb, len_beq hb, beq_len hb, d0, hjn, hwj, hxg, hxe, hjE]
        refine ⟨L.length - (j + 1), by omega, hJ _ _ _ ⟨_, j + 1, rfl, rfl, hjn, rfl, rfl, rfl, rfl, ?_, hch.set (.inl hbv)⟩⟩
        refine .inr ⟨b, c, xx, by rw [hlo]; exact hv, ?_, by rw [hlo]; exact hc⟩
        rw [← hxs]
        simp
        exact get_set_same hb
    · have : j = L.length := by omega
      subst this
      have d0 : decide ((L.length : Int) < (L.length : Nat)) = false := dec_false (by omega)
      simp [Lt.evB, recheck, wantsOp, AV.same, sames, eqCells, eqLeaf, toL_some, asc, fzero, fnone, List.map_cons, List.map_nil, resVals, resVal, resOf, partV, fillA, putCells, fillEls, strBin, minV, optNat, appendEls, elsOf, sliceSlV, sliceStrV, List.replicate, List.getElem?_append_left, List.getElem?_append_right, List.set_append_left, List.set_append_right, List.getElem?_set_self, List.getElem?_set_ne, f0, f2, f3, f4, lm, d0]
      refine hR' _ (hR _ _ rfl rfl ?_ hch)
      simpa using ho
set_option maxHeartbeats 4000000 in
theorem put_call {k : H} {g : Nat} {pi wi pl wl : AV} {vs : List AV} {Ls : Nat → List (List AV)} (hg : k[g]? = some (bookB pi wi pl wl)) (hp : RdS k 1 pi (vs.map fun u => [u])) (hlen : vs.length ≤ 250)
    (hv : ∀ i (h : i < vs.length), OwnE k 2 vs[i] (Ls i)) (hi : ∀ i, (∀ e ∈ Ls i, e.length = 2) ∧ (Ls i).length < 100000) (ha : Apt g pi vs) :
    Yld (call Lz.fs3 Lz.ex3 56 [.ptr g 0 0] k) fun r => ∃ k', r = (.tuple [], k') ∧ (∀ i (h : i < vs.length), OwnE k' 2 vs[i] (marks i 0 (Ls i).length)) ∧ Chg k k' (feet vs) := by
  refine yld_shut fun Q hQ => ?_
  rw [call_eq Lz.fs3 Lz.ex3 (f := 56) (sf := sf56) rfl]
  have lg := hp.len
  simp only [List.length_map] at lg
  have hgB := hg
  unfold bookB at hg
  have hgl := (List.getElem?_eq_some_iff.1 hg).1
  simp [sf56, Lt.evB, recheck, wantsOp, AV.same, sames, eqCells, eqLeaf, toL_some, asc, fzero, fnone, List.map_cons, List.map_nil, resVals, resVal, resOf, partV, fillA, putCells, fillEls, strBin, minV, optNat, appendEls, elsOf, sliceSlV, sliceStrV, List.replicate, List.getElem?_append_left, List.getElem?_append_right, List.set_append_left, List.set_append_right, List.getElem?_set_self, List.getElem?_set_ne, lg]
  repeat (first | apply yld_endFn | apply yld_seqK | apply yld_blockK | apply yld_regK | apply yld_opsK | apply yld_putK | apply yld_stgK | apply yld_chkK)
  refine yld_rounds (fun m e k' => ∃ f j, e = toL 43 f ∧ m = vs.length - j ∧ j ≤ vs.length ∧ f 0 = .ptr g 0 0 ∧ f 2 = .int .i64 (j : Nat) ∧ (∀ i (h : i < vs.length), OwnE k' 2 vs[i] (if i < j then marks i 0 (Ls i).length else Ls i)) ∧ Chg k k' (feet vs)) (vs.length - 0) ?_ ?_
  · exact ⟨_, 0, rfl, rfl, Nat.zero_le _, rfl, rfl, fun i h => by simpa using hv i h, Chg.refl _ _⟩
  · rintro J R hJ hR m e k' ⟨f, j, rfl, rfl, hj, f0, f2, ho, hch⟩
    by_cases hjn : j < vs.length
    · have d0 : decide ((j : Int) < (vs.length : Nat)) = true := dec_true (by omega)
      have hwj : IntKind.i64.wrap ((j : Int) + 1) = ((j + 1 : Nat) : Int) := wrap_i64 (by omega) (by omega)
      have hg1B := hch.2 g _ ha.g_feet hgB
      have hg1 := hch.2 g _ ha.g_feet hg
      have hp1 := hp.keep hch ha.p_feet
      obtain ⟨ip, gp⟩ := hp1.idx (i := j) (by simpa using hjn)
      have hx2 : (vs.map fun u => [u])[j]? = some [vs[j]] := by simp [hjn]
      rw [hx2] at gp
      have hoj := ho j hjn
      simp only [Nat.lt_irrefl, if_false] at hoj
      have lu := hoj.grow.rds.len
      have su := hoj.grow.rds.cells
      obtain ⟨⟨ms, k2⟩, e62, _, _, hr, hom, hc2, hf2⟩ := mark_call (i := j) (a := 0) (n := (Ls j).length) (by omega) (by omega) (by have := (hi j).2; omega) k'
      cases hr
      have hg2B := hc2.2 g _ (by simp) hg1B
      have hp2 := hp1.keep hc2 (by simp)
      have hoj2 := hoj.keep hc2 (by simp)
      have hpj := ha.pv j hjn
      have hgj := ha.gv j hjn
      have hms : ∀ c ∈ foot ms, c ∉ foot vs[j] := fun c hc hm => by have := hf2 c hc; have := hoj.lt c hm; omega
      have hfin : ∀ f' k'', f' 0 = .ptr g 0 0 → f' 2 = .int .i64 ((j + 1 : Nat) : Int) → OwnE k'' 2 vs[j] (marks j 0 (Ls j).length) → Chg k2 k'' (foot vs[j]) → ∃ m, m < vs.length - j ∧ J m (toL 43 f') k'' := by
        intro f' k'' q0 q2 qo qc
        refine ⟨vs.length - (j + 1), by omega, hJ _ _ _ ⟨f', j + 1, rfl, rfl, by omega, q0, q2, fun i h => ?_, (hch.trans hc2 (by simp)).trans qc (fun c hc => .inl (mem_feet hjn hc))⟩⟩
        by_cases hij : i = j
        · subst hij; simpa using qo
        · have h0 := ((ho i h).keep hc2 (by simp)).keep qc (ha.vv i j h hjn hij)
          have e1 : (if i < j + 1 then marks i 0 (Ls i).length else Ls i) = (if i < j then marks i 0 (Ls i).length else Ls i) := by
            by_cases h1 : i < j
            · rw [if_pos h1, if_pos (by omega)]
            · rw [if_neg h1, if_neg (by omega)]
          rw [e1]; exact h0
      generalize hvj : vs[j] = u at *
      simp only [Int.natCast_zero] at e62
      simp [Lt.evB, recheck, wantsOp, AV.same, sames, eqCells, eqLeaf, toL_some, asc, fzero, fnone, List.map_cons, List.map_nil, resVals, resVal, resOf, partV, fillA, putCells, fillEls, strBin, minV, optNat, appendEls, elsOf, sliceSlV, sliceStrV, List.replicate, List.getElem?_append_left, List.getElem?_append_right, List.set_append_left, List.set_append_right, List.getElem?_set_self, List.getElem?_set_ne, f0, f2, lg, hg1, get_app hg1, set_app hg1, get_set_same hg1, get_set_app hg1, set_set_app hg1, len_beq hg1, beq_len hg1, ip, gp, d0, hjn, hwj, lu, e62, su.1, su.2.1, su.2.2]
      repeat (first | apply yld_endFn | apply yld_seqK | apply yld_blockK | apply yld_regK | apply yld_opsK | apply yld_putK | apply yld_stgK | apply yld_chkK)
      refine put_loop (by simp [sf56, loopsAll]) hg2B hp2 hjn hvj hoj2 hom.grow.rds (hi j).2 (hi j).1 hgj hpj hms (by rfl) (by rfl) (by rfl) (by rfl) ?_
      intro f' k'' q0 q2 qo qc
      simp [Lt.evB, recheck, wantsOp, AV.same, sames, eqCells, eqLeaf, toL_some, asc, fzero, fnone, List.map_cons, List.map_nil, resVals, resVal, resOf, partV, fillA, putCells, fillEls, strBin, minV, optNat, appendEls, elsOf, sliceSlV, sliceStrV, List.replicate, List.getElem?_append_left, List.getElem?_append_right, List.set_append_left, List.set_append_right, List.getElem?_set_self, List.getElem?_set_ne, q0, q2, hwj]
      exact hfin _ _ (by simp [fput, q0]) rfl qo qc
    · have hjj : j = vs.length := by omega
      have d0 : decide ((j : Int) < (vs.length : Nat)) = false := dec_false (by omega)
      have hg1 := hch.2 g _ ha.g_feet hg
      simp [Lt.evB, recheck, wantsOp, AV.same, sames, eqCells, eqLeaf, toL_some, asc, fzero, fnone, List.map_cons, List.map_nil, resVals, resVal, resOf, partV, fillA, putCells, fillEls, strBin, minV, optNat, appendEls, elsOf, sliceSlV, sliceStrV, List.replicate, List.getElem?_append_left, List.getElem?_append_right, List.set_append_left, List.set_append_right, List.getElem?_set_self, List.getElem?_set_ne, f0, f2, lg, hg1, get_app hg1, set_app hg1, get_set_same hg1, get_set_app hg1, set_set_app hg1, len_beq hg1, beq_len hg1, d0, hjn]
      refine hR _ ?_
      simp [Lt.evB, recheck, wantsOp, AV.same, sames, eqCells, eqLeaf, toL_some, asc, fzero, fnone, List.map_cons, List.map_nil, resVals, resVal, resOf, partV, fillA, putCells, fillEls, strBin, minV, optNat, appendEls, elsOf, sliceSlV, sliceStrV, List.replicate, List.getElem?_append_left, List.getElem?_append_right, List.set_append_left, List.set_append_right, List.getElem?_set_self, List.getElem?_set_ne, f0, f2]
      exact hQ _ ⟨_, rfl, fun i h => by have := ho i h; rwa [if_pos (by omega)] at this, hch⟩
set_option maxHeartbeats 4000000 in
/-- One list is grown by one, and by one. -/
theorem grow_loop {lv : List Nat} {body : SCode} (hb : (loopsAll sf61.body)[1]? = some (lv, body)) {f : Nat → AV} {k : H} {g i n : Nat} {l out : AV}
    (hi : i ≤ 250) (hn : n ≤ 50000) (ho : GrowE k 2 l (marks i 0 n))
    (f0 : f 0 = .ptr g 0 0) (f3 : f 3 = out) (f4 : f 4 = .int .i64 (i : Nat)) (f5 : f 5 = l) (f6 : f 6 = .int .i64 0) {R : (Ex × Env) × H → Prop}
    (hR : ∀ f' k' l', f' 0 = .ptr g 0 0 → f' 3 = out → f' 4 = .int .i64 (i : Nat) → f' 5 = l' → GrowE k' 2 l' (marks i 0 (n + 12)) → RdS k' 2 l (marks i 0 n) → (∀ c ∈ foot l', k.length ≤ c) → Chg k k' (foot l) → R ((.exit 2, toL 43 f'), k')) :
    Yld (itw (fun env => exec (call Lz.fs3 Lz.ex3) itw body (keepFrom lv 0 env)) (toL 43 f) k) R := by
  simp [sf61, loopsAll] at hb
  obtain ⟨rfl, rfl⟩ := hb
  refine yld_rounds (fun m e k' => ∃ f j l', e = toL 43 f ∧ m = 12 - j ∧ j ≤ 12 ∧ f 0 = .ptr g 0 0 ∧ f 3 = out ∧ f 4 = .int .i64 (i : Nat) ∧ f 5 = l' ∧ f 6 = .int .i64 (j : Nat) ∧ GrowE k' 2 l' (marks i 0 (n + j)) ∧ RdS k' 2 l (marks i 0 n) ∧ ((j = 0 ∧ l' = l) ∨ (0 < j ∧ ∀ c ∈ foot l', k.length ≤ c)) ∧ Chg k k' (foot l)) (12 - 0) ?_ ?_
  · exact ⟨_, 0, l, rfl, rfl, Nat.zero_le _, f0, f3, f4, f5, f6, ho, ho.rds, .inl ⟨rfl, rfl⟩, Chg.refl _ _⟩
  · have hol := ho.lt
    clear f0 f3 f4 f5 f6 ho
    rintro J R' hJ hR' m e k' ⟨f, j, l', rfl, rfl, hj, f0, f3, f4, f5, f6, ho, hr, hor, hch⟩
    by_cases hjn : j < 12
    · have d0 : decide ((j : Int) < 12) = true := dec_true (by omega)
      have hwj : IntKind.i64.wrap ((j : Int) + 1) = ((j + 1 : Nat) : Int) := wrap_i64 (by omega) (by omega)
      have ll := ho.rds.len
      rw [marks_len] at ll
      obtain ⟨⟨ms, k2⟩, e62, _, _, hr2, hom, hc2, hf2⟩ := mark_call (i := i) (a := n + j) (n := 1) (by omega) (by omega) (by omega) k'
      cases hr2
      obtain ⟨l2, k3, e9, ho2, hrd2, hc3, hf3⟩ := keep_append (ho.keep hc2 (by simp)) hom.grow.rds (by rw [marks_len]; omega) (marks_scalar _ _ _) (by rw [marks_len, marks_len]; omega)
      have hm2 : marks i 0 (n + j) ++ marks i (n + j) 1 = marks i 0 (n + (j + 1)) := by rw [← Nat.add_assoc, marks_add i 0 (n + j) 1]; simp
      rw [hm2] at ho2
      have hkl := hch.1
      have hk2l := hc2.1
      have hrl : RdS k3 2 l (marks i 0 n) := by
        rcases hor with ⟨rfl, rfl⟩ | ⟨_, hft⟩
        · exact hrd2
        · exact (hr.keep hc2 (by simp)).keep hc3 (fun c hc hm => by have := hol c hc; have := hft c hm; omega)
      have hcl : Chg k k3 (foot l) := by
        refine (hch.trans hc2 (by simp)).trans hc3 (fun c hc => ?_)
        rcases hor with ⟨_, rfl⟩ | ⟨_, hft⟩
        · exact .inl hc
        · exact .inr (hft c hc)
      have e62' : call Lz.fs3 Lz.ex3 106 [.int .i64 (i : Nat), .int .i64 ((n : Int) + (j : Int)), .int .i64 1] k' = some (ms, k2) := by simpa using e62
      have sl := ho.rds.cells
      simp [Lt.evB, recheck, wantsOp, AV.same, sames, eqCells, eqLeaf, toL_some, asc, fzero, fnone, List.map_cons, List.map_nil, resVals, resVal, resOf, partV, fillA, putCells, fillEls, strBin, minV, optNat, appendEls, elsOf, sliceSlV, sliceStrV, List.replicate, List.getElem?_append_left, List.getElem?_append_right, List.set_append_left, List.set_append_right, List.getElem?_set_self, List.getElem?_set_ne, f0, f3, f4, f5, f6, d0, hjn, hwj, ll, e62, e62', e9, sl.1, sl.2.1, sl.2.2]
      exact ⟨12 - (j + 1), by omega, hJ _ _ _ ⟨_, j + 1, l2, rfl, rfl, by omega, rfl, rfl, rfl, rfl, rfl, ho2, hrl, .inr ⟨by omega, fun c hc => by have := hf3 c hc; omega⟩, hcl⟩⟩
    · have : j = 12 := by omega
      subst this
      simp [Lt.evB, recheck, wantsOp, AV.same, sames, eqCells, eqLeaf, toL_some, asc, fzero, fnone, List.map_cons, List.map_nil, resVals, resVal, resOf, partV, fillA, putCells, fillEls, strBin, minV, optNat, appendEls, elsOf, sliceSlV, sliceStrV, List.replicate, List.getElem?_append_left, List.getElem?_append_right, List.set_append_left, List.set_append_right, List.getElem?_set_self, List.getElem?_set_ne, f0, f3, f4, f5, f6]
      rcases hor with ⟨h0, _⟩ | ⟨_, hft⟩
      · omega
      · exact hR' _ (hR _ _ l' rfl rfl rfl rfl ho hr hft hch)
set_option maxHeartbeats 8000000 in
theorem grow_call {k : H} {g : Nat} {pi wi pl wl : AV} {vs : List AV} {N : Nat → Nat} (hg : k[g]? = some (bookB pi wi pl wl)) (hp : RdS k 1 pi (vs.map fun u => [u])) (hlen : vs.length ≤ 250)
    (hv : ∀ i (h : i < vs.length), OwnE k 2 vs[i] (marks i 0 (N i))) (hN : ∀ i, N i ≤ 50000) (ha : Apt g pi vs) :
    Yld (call Lz.fs3 Lz.ex3 61 [.ptr g 0 0] k) fun r => ∃ (gv : AV) (us : List AV) (k' : H), r = (gv, k') ∧ RdS k' 1 gv (us.map fun u => [u]) ∧ us.length = vs.length ∧ (∀ i (h : i < us.length), RdS k' 2 us[i] (marks i 0 (N i + 72)) ∧ ∀ c ∈ foot us[i], k.length ≤ c) ∧ (∀ c ∈ foot gv, k.length ≤ c) ∧ (∀ i (h : i < vs.length), RdS k' 2 vs[i] (marks i 0 (N i))) ∧ Chg k k' (feet vs) := by
  refine yld_shut fun Q hQ => ?_
  rw [call_eq Lz.fs3 Lz.ex3 (f := 61) (sf := sf61) rfl]
  have lg := hp.len
  simp only [List.length_map] at lg
  unfold bookB at hg
  simp [sf61, Lt.evB, recheck, wantsOp, AV.same, sames, eqCells, eqLeaf, toL_some, asc, fzero, fnone, List.map_cons, List.map_nil, resVals, resVal, resOf, partV, fillA, putCells, fillEls, strBin, minV, optNat, appendEls, elsOf, sliceSlV, sliceStrV, List.replicate, List.getElem?_append_left, List.getElem?_append_right, List.set_append_left, List.set_append_right, List.getElem?_set_self, List.getElem?_set_ne, lg]
  repeat (first | apply yld_endFn | apply yld_seqK | apply yld_blockK | apply yld_regK | apply yld_opsK | apply yld_putK | apply yld_stgK | apply yld_chkK)
  refine yld_rounds (fun m e k' => ∃ (f : Nat → AV) (j : Nat) (out : AV) (us : List AV), e = toL 43 f ∧ m = vs.length - j ∧ j ≤ vs.length ∧ f 0 = .ptr g 0 0 ∧ f 3 = out ∧ f 4 = .int .i64 (j : Nat) ∧ us.length = j ∧ GrowE k' 1 out (us.map fun u => [u]) ∧ (∀ c ∈ foot out, k.length ≤ c) ∧ (∀ i (h : i < us.length), GrowE k' 2 us[i] (marks i 0 (N i + 72)) ∧ ∀ c ∈ foot us[i], k.length ≤ c ∧ c ∉ foot out) ∧
    (∀ i (h : i < vs.length), RdS k' 2 vs[i] (marks i 0 (N i)) ∧ (j ≤ i → OwnE k' 2 vs[i] (marks i 0 (N i)))) ∧ Chg k k' (feet vs)) (vs.length - 0) ?_ ?_
  · exact ⟨_, 0, .nilslice, [], rfl, rfl, Nat.zero_le _, rfl, rfl, rfl, rfl, .inl ⟨rfl, rfl⟩, by simp [foot], by simp, fun i h => ⟨(hv i h).grow.rds, fun _ => hv i h⟩, Chg.refl _ _⟩
  · rintro J R hJ hR m e k' ⟨f, j, out, us, rfl, rfl, hj, f0, f3, f4, hus, hout, hofr, hu, hvv, hch⟩
    have hg1 := hch.2 g _ ha.g_feet hg
    have hp1 := hp.keep hch ha.p_feet
    by_cases hjn : j < vs.length
    · have d0 : decide ((j : Int) < (vs.length : Nat)) = true := dec_true (by omega)
      have hwj : IntKind.i64.wrap ((j : Int) + 1) = ((j + 1 : Nat) : Int) := wrap_i64 (by omega) (by omega)
      obtain ⟨ip, gp⟩ := hp1.idx (i := j) (by simpa using hjn)
      have hx2 : (vs.map fun u => [u])[j]? = some [vs[j]] := by simp [hjn]
      rw [hx2] at gp
      have hoj := (hvv j hjn).2 (Nat.le_refl _)
      have su := hoj.grow.rds.cells
      have hNj := hN j
      have hvlt : ∀ i (h : i < vs.length), ∀ c ∈ foot vs[i], c < k.length := fun i h => (hv i h).lt
      -- what is to be shown behind the round
      have hfin : ∀ f' k3 k4 k5 l' l2 out' , Chg k' k3 (foot vs[j]) → GrowE k3 2 l' (marks j 0 (N j + 12)) → RdS k3 2 vs[j] (marks j 0 (N j)) → (∀ c ∈ foot l', k'.length ≤ c) →
          Chg k3 k4 (foot l') → GrowE k4 2 l2 (marks j 0 (N j + 72)) → (∀ c ∈ foot l2, k3.length ≤ c) → Chg k4 k5 (foot out) → GrowE k5 1 out' ((us.map fun u => [u]) ++ [[l2]]) → (∀ c ∈ foot out', k4.length ≤ c) →
          f' 0 = .ptr g 0 0 → f' 3 = out' → f' 4 = .int .i64 ((j + 1 : Nat) : Int) → ∃ m, m < vs.length - j ∧ J m (toL 43 f') k5 := by
        intro f' k3 k4 k5 l' l2 out' c1 o1 r1 n1 c2 o2 n2 c3 o3 n3 q0 q3 q4
        have b0 := hch.1
        have b1 := c1.1
        have b2 := c2.1
        refine ⟨vs.length - (j + 1), by omega, hJ _ _ _ ⟨f', j + 1, out', us ++ [l2], rfl, rfl, by omega, q0, q3, q4, by simp [hus], by simpa using o3, fun c hc => by have := n3 c hc; omega, fun i h => ?_, fun i h => ?_, ?_⟩⟩
        · by_cases hi : i < us.length
          · rw [List.getElem_append_left hi]
            obtain ⟨hr, hf⟩ := hu i hi
            have hlt := hr.lt
            refine ⟨((hr.keep c1 (fun c hc hm => by have := (hf c hc).1; have := hvlt j hjn c hm; omega)).keep c2 (fun c hc hm => by have := hlt c hc; have := n1 c hm; omega)).keep c3 (fun c hc => (hf c hc).2), fun c hc => ⟨(hf c hc).1, fun hm => by have := hlt c hc; have := n3 c hm; omega⟩⟩
          · have hij : i = us.length := by simp at h; omega
            subst hij
            rw [List.getElem_append_right (Nat.le_refl _)]
            simp only [Nat.sub_self, List.getElem_cons_zero]
            rw [hus]
            have hlt := o2.lt
            have holt := hout.lt
            refine ⟨o2.keep c3 (fun c hc hm => by have := n2 c hc; have := holt c hm; omega), fun c hc => ⟨by have := n2 c hc; omega, fun hm => by have := hlt c hc; have := n3 c hm; omega⟩⟩
        · obtain ⟨hr, ho⟩ := hvv i h
          have hfi := hvlt i h
          have k2 : ∀ c ∈ foot vs[i], c ∉ foot l' := fun c hc hm => by have := hfi c hc; have := n1 c hm; omega
          have k3 : ∀ c ∈ foot vs[i], c ∉ foot out := fun c hc hm => by have := hfi c hc; have := hofr c hm; omega
          by_cases hij : i = j
          · subst hij
            exact ⟨(r1.keep c2 k2).keep c3 k3, fun h => by omega⟩
          · have k1 := ha.vv i j h hjn hij
            exact ⟨((hr.keep c1 k1).keep c2 k2).keep c3 k3, fun h' => (((ho (by omega)).keep c1 k1).keep c2 k2).keep c3 k3⟩
        · refine ((hch.trans c1 (fun c hc => .inl (mem_feet hjn hc))).trans c2 (fun c hc => .inr (by have := n1 c hc; omega))).trans c3 (fun c hc => .inr (hofr c hc))
      generalize hvj : vs[j] = u at *
      simp [Lt.evB, recheck, wantsOp, AV.same, sames, eqCells, eqLeaf, toL_some, asc, fzero, fnone, List.map_cons, List.map_nil, resVals, resVal, resOf, partV, fillA, putCells, fillEls, strBin, minV, optNat, appendEls, elsOf, sliceSlV, sliceStrV, List.replicate, List.getElem?_append_left, List.getElem?_append_right, List.set_append_left, List.set_append_right, List.getElem?_set_self, List.getElem?_set_ne, f0, f3, f4, lg, hg1, get_app hg1, set_app hg1, get_set_same hg1, get_set_app hg1, set_set_app hg1, len_beq hg1, beq_len hg1, ip, gp, d0, hjn, hwj, su.1, su.2.1, su.2.2]
      repeat (first | apply yld_endFn | apply yld_seqK | apply yld_blockK | apply yld_regK | apply yld_opsK | apply yld_putK | apply yld_stgK | apply yld_chkK)
      refine grow_loop (by simp [sf61, loopsAll]) (i := j) (n := N j) (by omega) hNj hoj.grow (by rfl) (by rfl) (by rfl) (by rfl) (by rfl) ?_
      intro f' k3 l' q0 q3 q4 q5 o1 r1 n1 c1
      have ll := o1.rds.len
      rw [marks_len] at ll
      obtain ⟨⟨ms, k3'⟩, e62, _, _, hr2, hom, hc2, hf2⟩ := mark_call (i := j) (a := N j + 12) (n := 60) (by omega) (by omega) (by omega) k3
      cases hr2
      obtain ⟨l2, k4, e9, ho2, hrd2, hc3, hf3⟩ := keep_append (o1.keep hc2 (by simp)) hom.grow.rds (by rw [marks_len]; omega) (marks_scalar _ _ _) (by rw [marks_len, marks_len]; omega)
      have hm2 : marks j 0 (N j + 12) ++ marks j (N j + 12) 60 = marks j 0 (N j + 72) := by rw [show N j + 72 = (N j + 12) + 60 by omega, marks_add j 0 (N j + 12) 60]; simp
      rw [hm2] at ho2
      have b2 := hc2.1
      have sl2 := ho2.rds.cells
      have hc4 : Chg k3 (k4 ++ [.row 1 [[l2]] true true]) (foot l') := (hc2.mono (by simp)).trans (hc3.more) (fun c hc => .inl hc)
      have hout3 : GrowE (k4 ++ [.row 1 [[l2]] true true]) 1 out (us.map fun u => [u]) := (hout.keep c1 (fun c hc hm => by have := hofr c hc; have := hvlt j hjn c (by rw [hvj]; exact hm); omega)).keep hc4 (fun c hc hm => by have := hout.lt c hc; have := n1 c hm; omega)
      obtain ⟨out', k5, e10, ho5, hrd5, hc5, hf5⟩ := keep_append hout3 (x := .slice k4.length 1 0 1 1 true) (X := [[l2]]) (.inr <| .inr ⟨k4.length, 1, true, [[l2]], true, true, rfl, by simp, rfl, by simp⟩) (by simp) (by simpa using sl2.2.1) (by simp; omega)
      have e62' : call Lz.fs3 Lz.ex3 106 [.int .i64 (j : Nat), .int .i64 ((N j : Int) + 12), .int .i64 60] k3 = some (ms, k3') := by simpa using e62
      have sl1 := o1.rds.cells
      have so := hout.rds.cells
      simp [Lt.evB, recheck, wantsOp, AV.same, sames, eqCells, eqLeaf, toL_some, asc, fzero, fnone, List.map_cons, List.map_nil, resVals, resVal, resOf, partV, fillA, putCells, fillEls, strBin, minV, optNat, appendEls, elsOf, sliceSlV, sliceStrV, List.replicate, List.getElem?_append_left, List.getElem?_append_right, List.set_append_left, List.set_append_right, List.getElem?_set_self, List.getElem?_set_ne, q0, q3, q4, q5, ll, e62, e62', e9, e10, hwj, sl1.1, sl1.2.1, sl1.2.2, so.1, so.2.1, so.2.2, sl2.1, sl2.2.1, sl2.2.2]
      refine hfin _ k3 _ k5 l' l2 out' c1 o1 r1 n1 hc4 (ho2.keep (Chg.app _ _ []) (by simp)) (fun c hc => by have := hf3 c hc; omega) hc5 ho5 hf5 (by simp [fput, q0]) (by simp [fput]) (by simp [fput])
    · have d0 : decide ((j : Int) < (vs.length : Nat)) = false := dec_false (by omega)
      have so := hout.rds.cells
      simp [Lt.evB, recheck, wantsOp, AV.same, sames, eqCells, eqLeaf, toL_some, asc, fzero, fnone, List.map_cons, List.map_nil, resVals, resVal, resOf, partV, fillA, putCells, fillEls, strBin, minV, optNat, appendEls, elsOf, sliceSlV, sliceStrV, List.replicate, List.getElem?_append_left, List.getElem?_append_right, List.set_append_left, List.set_append_right, List.getElem?_set_self, List.getElem?_set_ne, f0, f3, f4, lg, hg1, get_app hg1, set_app hg1, get_set_same hg1, get_set_app hg1, set_set_app hg1, len_beq hg1, beq_len hg1, d0, hjn]
      refine hR _ ?_
      simp [Lt.evB, recheck, wantsOp, AV.same, sames, eqCells, eqLeaf, toL_some, asc, fzero, fnone, List.map_cons, List.map_nil, resVals, resVal, resOf, partV, fillA, putCells, fillEls, strBin, minV, optNat, appendEls, elsOf, sliceSlV, sliceStrV, List.replicate, List.getElem?_append_left, List.getElem?_append_right, List.set_append_left, List.set_append_right, List.getElem?_set_self, List.getElem?_set_ne, f0, f3, f4, so.1, so.2.1, so.2.2]
      exact hQ _ ⟨out, us, _, rfl, hout.rds, by omega, fun i h => ⟨(hu i h).1.rds, fun c hc => ((hu i h).2 c hc).1⟩, hofr, fun i h => (hvv i h).1, hch⟩
end Go.Proofs.YtgnenipkebelfaaGreatDoor.BkI
