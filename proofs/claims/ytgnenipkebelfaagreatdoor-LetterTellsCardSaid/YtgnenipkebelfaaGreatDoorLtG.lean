/- Letters: what a writer has. -/
import Derived.Test.YtgnenipkebelfaaGreatDoorLtF
set_option maxRecDepth 100000
set_option linter.unusedVariables false
set_option linter.unusedSimpArgs false
namespace Go.Proofs.YtgnenipkebelfaaGreatDoor.Lt
open Go Go.Eng F Pk Bk

def byc (s : List UInt8) : List (List AV) := s.map fun c => [AV.int .u8 (c.toNat : Int)]
theorem byc_len (s : List UInt8) : (byc s).length = s.length := by simp [byc]
theorem byc_app (s t : List UInt8) : byc (s ++ t) = byc s ++ byc t := by simp [byc]
theorem bytesB_byc : ∀ s : List UInt8, bytesB (byc s) = some s
  | [] => rfl
  | c :: s => by
    have h1 : (0 : Int) ≤ c.toNat ∧ (c.toNat : Int) ≤ 255 := ⟨by omega, by have := c.toNat_lt; omega⟩
    have ih := bytesB_byc s
    unfold byc at ih ⊢
    rw [List.map_cons]
    unfold bytesB
    rw [if_pos h1, ih]
    simp
/-- A writer at b has s; its buffer. -/
def Wr (k : H) (b : Nat) (s : List UInt8) (G : List Nat) : Prop :=
  (k[b]? = some (.bld .nilslice) ∧ s = [] ∧ G = []) ∨ ∃ g, k[b]? = some (.bld (.slice g 1 0 s.length s.length false)) ∧ k[g]? = some (.row 1 (byc s) true true) ∧ s ≠ [] ∧ G = [g]
theorem Wr.keep {k k' : H} {b : Nat} {s : List UInt8} {G F : List Nat} (w : Wr k b s G) (hc : Chg k k' F) (hb : b ∉ F) (hG : ∀ g ∈ G, g ∉ F) : Wr k' b s G := by
  rcases w with ⟨h1, h2, h3⟩ | ⟨g, h1, h2, h3, h4⟩
  · exact .inl ⟨hc.2 _ _ hb h1, h2, h3⟩
  · exact .inr ⟨g, hc.2 _ _ hb h1, hc.2 _ _ (hG g (by simp [h4])) h2, h3, h4⟩
theorem Wr.lt {k : H} {b : Nat} {s : List UInt8} {G : List Nat} (w : Wr k b s G) : ∀ g ∈ b :: G, g < k.length := by
  rcases w with ⟨h1, h2, h3⟩ | ⟨g, h1, h2, h3, h4⟩
  · subst h3; intro g hg; simp at hg; subst hg; exact (List.getElem?_eq_some_iff.1 h1).1
  · subst h4; intro x hx; simp at hx
    rcases hx with rfl | rfl
    · exact (List.getElem?_eq_some_iff.1 h1).1
    · exact (List.getElem?_eq_some_iff.1 h2).1
theorem write_step {k : H} {b : Nat} {s t : List UInt8} {G : List Nat} (w : Wr k b s G) (ht : t ≠ []) (hn : s.length + t.length ≤ 4294967296) :
    ∃ k' G', exW 20 [.ptr b 0 0, .str t] k = some (.tuple [.int .i64 t.length, .undef], k') ∧ Wr k' b (s ++ t) G' ∧ Chg k k' (b :: G) ∧ ∀ g ∈ G', k.length ≤ g := by
  have hX0 : (byc t).length ≠ 0 := by rw [byc_len]; intro h; exact ht (List.length_eq_zero_iff.1 h)
  have hlt := w.lt b (by simp)
  have hst : s ++ t ≠ [] := by simp [ht]
  rcases w with ⟨h1, rfl, rfl⟩ | ⟨g, h1, h2, h3, rfl⟩
  · have ha : appendEls false 1 .nilslice (byc t) k = some (.slice k.length 1 0 t.length t.length false, k ++ [.row 1 (byc t) true true]) := by
      have h5 : t.length ≤ 4294967296 := by simp at hn; omega
      rw [byc_len] at hX0
      simp only [appendEls, byc_len]
      rw [if_neg hX0, if_pos (.inl h5)]
    refine ⟨(k ++ [Blk.row 1 (byc t) true true]).set b (.bld (.slice k.length 1 0 t.length t.length false)), [k.length], ?_, .inr ⟨k.length, ?_, ?_, hst, rfl⟩, (Chg.app _ _ _).set (.inl (by simp)), by simp⟩
    · unfold byc at ha
      simp only [exW, h1, ha]
      rfl
    · rw [List.getElem?_set_self (by simp; omega)]; rfl
    · rw [List.getElem?_set_ne (by omega)]
      simp
  · have hgb : g ≠ b := by rintro rfl; rw [h1] at h2; cases h2
    have hglt := (List.getElem?_eq_some_iff.1 h2).1
    have ha : appendEls false 1 (.slice g 1 0 s.length s.length false) (byc t) k = some (.slice k.length 1 0 (s.length + t.length) (s.length + t.length) false, k.set g .dead ++ [.row 1 (byc (s ++ t)) true true]) := by
      have h6 : (byc s).take s.length = byc s := List.take_of_length_le (by rw [byc_len]; omega)
      have h7 : 0 + s.length ≤ (byc s).length := by rw [byc_len]; omega
      simp only [appendEls, hX0, if_false, h2]
      simp [hn, h6, byc_len, byc_app]
    refine ⟨(k.set g .dead ++ [Blk.row 1 (byc (s ++ t)) true true]).set b (.bld (.slice k.length 1 0 (s.length + t.length) (s.length + t.length) false)), [k.length], ?_, .inr ⟨k.length, ?_, ?_, hst, rfl⟩, (((Chg.refl _ _).set (.inl (by simp))).more).set (.inl (by simp)), by simp⟩
    · unfold byc at ha
      simp only [exW, h1, ha]
      rfl
    · rw [List.getElem?_set_self (by simp; omega), List.length_append]
    · rw [List.getElem?_set_ne (by omega)]
      simp
theorem string_step {k : H} {b : Nat} {s : List UInt8} {G : List Nat} (w : Wr k b s G) (hn : s.length ≤ 4294967296) : ∃ k', exW 24 [.ptr b 0 0] k = some (.str s, k') ∧ Chg k k' G := by
  rcases w with ⟨h1, rfl, rfl⟩ | ⟨g, h1, h2, h3, rfl⟩
  · exact ⟨k, by simp only [exW, h1], Chg.refl _ _⟩
  · refine ⟨k.set g .dead, ?_, (Chg.refl _ _).set (.inl (by simp))⟩
    have h0 : s.length ≠ 0 := fun h => h3 (List.length_eq_zero_iff.1 h)
    have h6 : (byc s).take s.length = byc s := List.take_of_length_le (by rw [byc_len]; omega)
    simp only [exW, h1, h2, h6, bytesB_byc, byc_len]
    rw [if_pos ⟨h0, Nat.le_refl _, by omega⟩]
/-- A table in which a writer's functions are run. -/
structure Tbl (fs : FuncId → Option SFunc) (ex : FuncId → List AV → M AV) : Prop where
  nums : fs 19 = some sf19
  texts : fs 23 = some sf23
  items : fs 22 = some sf22
  W : ∀ vs h, call fs ex 20 vs h = exW 20 vs h
  S : ∀ vs h, call fs ex 24 vs h = exW 24 vs h
  N : ∀ vs h, call fs ex 72 vs h = exG 72 vs h
  T : ∀ vs h, call fs ex 75 vs h = exG 75 vs h
  D : ∀ vs h, call fs ex 21 vs h = exG 21 vs h
theorem numS_ne (v : Int) : numS v ≠ [] := by simp [numS]
theorem textS_ne (s : List UInt8) : textS s ≠ [] := by simp [textS]
theorem flat_numS (L : List Int) : (L.flatMap numS).length = 2 * L.length := by
  induction L with
  | nil => rfl
  | cons x l ih => rw [List.flatMap_cons, List.length_append, ih, numS_len, List.length_cons]; omega
theorem flat_textS : ∀ (L : List (List UInt8)), (∀ x ∈ L, x.length ≤ 255) → (L.flatMap textS).length ≤ 256 * L.length
  | [], _ => by simp
  | x :: l, h => by
    have ih := flat_textS l (fun y hy => h y (by simp [hy]))
    have := h x (by simp)
    rw [List.flatMap_cons, List.length_append, textS_len, List.length_cons]; omega
theorem flat_take {α : Type} (f : α → List UInt8) (L : List α) (j : Nat) : ((L.take j).flatMap f).length ≤ (L.flatMap f).length := by
  conv => rhs; rw [← List.take_append_drop j L]
  rw [List.flatMap_append, List.length_append]; omega
set_option maxHeartbeats 4000000 in
theorem nums_loop {fs : FuncId → Option SFunc} {ex : FuncId → List AV → M AV} (T : Tbl fs ex) {k : H} {b : Nat} {s : List UInt8} {G : List Nat} {v : AV} {L : List Int} (w : Wr k b s G) (hv : RdS k 1 v (L.map intc)) (hd : ∀ c ∈ foot v, c ∉ b :: G)
    (hr : ∀ x ∈ L, 0 ≤ x ∧ x ≤ 65535) (hl : L.length < 4294967296) (hn : s.length + 2 * L.length ≤ 4294967296) :
    Yld (call fs ex 19 [.ptr b 0 0, v] k) fun r => ∃ k' G', r = (.tuple [], k') ∧ Wr k' b (s ++ L.flatMap numS) G' ∧ Chg k k' (b :: G) ∧ ∀ g ∈ G', g ∈ G ∨ k.length ≤ g := by
  refine yld_shut fun Q hQ => ?_
  rw [call_eq fs ex (f := 19) (sf := sf19) T.nums]
  have lv := hv.len
  rw [List.length_map] at lv
  simp [sf19, evB, recheck, wantsOp, AV.same, sames, eqCells, eqLeaf, toL_some, asc, fzero, fnone, List.map_cons, List.map_nil, resVals, resVal, resOf, partV, fillA, putCells, fillEls, strBin, minV, optNat, appendEls, elsOf, sliceSlV, sliceStrV, List.replicate, List.getElem?_append_left, List.getElem?_append_right, List.set_append_left, List.set_append_right, List.getElem?_set_self, List.getElem?_set_ne, lv]
  repeat (first | apply yld_endFn | apply yld_seqK | apply yld_blockK | apply yld_regK | apply yld_opsK | apply yld_putK | apply yld_stgK | apply yld_chkK)
  refine yld_rounds (fun m e k' => ∃ f j G', e = toL 25 f ∧ m = L.length - j ∧ j ≤ L.length ∧ f 0 = .ptr b 0 0 ∧ f 8 = v ∧ f 9 = .int .i64 (L.length : Nat) ∧ f 10 = .int .i64 (j : Nat) ∧ Wr k' b (s ++ (L.take j).flatMap numS) G' ∧ Chg k k' (b :: G) ∧ ∀ g ∈ G', g ∈ G ∨ k.length ≤ g) (L.length - 0) ?_ ?_
  · exact ⟨_, 0, G, rfl, rfl, Nat.zero_le _, rfl, rfl, rfl, rfl, by simpa using w, Chg.refl _ _, fun g hg => .inl hg⟩
  · rintro J R hJ hR m e k' ⟨f, j, G', rfl, rfl, hj, f0, f8, f9, f10, w', hch, hG'⟩
    by_cases hjn : j < L.length
    · have d0 : decide ((j : Int) < (L.length : Nat)) = true := dec_true (by omega)
      have hwj : IntKind.i64.wrap ((j : Int) + 1) = ((j + 1 : Nat) : Int) := wrap_i64 (by omega) (by omega)
      obtain ⟨iv, gv⟩ := (hv.keep hch hd).idx (i := j) (by rw [List.length_map]; exact hjn)
      have hg : (L.map intc)[j]? = some (intc L[j]) := by simp [hjn]
      rw [hg] at gv
      unfold intc at gv
      have hx := hr L[j] (List.getElem_mem hjn)
      have x1 : ¬ L[j] < 0 := by omega
      have x2 : ¬ 65535 < L[j] := by omega
      have hlen := flat_take numS L j
      rw [flat_numS] at hlen
      obtain ⟨k2, G2, ew, w2, c2, hG2⟩ := write_step w' (numS_ne L[j]) (by rw [List.length_append, flat_numS, numS_len, List.length_take]; omega)
      have hnext : s ++ (L.take (j + 1)).flatMap numS = s ++ (L.take j).flatMap numS ++ numS L[j] := by rw [take_succ_get hjn, List.flatMap_append]; simp
      simp [evB, recheck, wantsOp, AV.same, sames, eqCells, eqLeaf, toL_some, asc, fzero, fnone, List.map_cons, List.map_nil, resVals, resVal, resOf, partV, fillA, putCells, fillEls, strBin, minV, optNat, appendEls, elsOf, sliceSlV, sliceStrV, List.replicate, List.getElem?_append_left, List.getElem?_append_right, List.set_append_left, List.set_append_right, List.getElem?_set_self, List.getElem?_set_ne, f0, f8, f9, f10, lv, iv, gv, d0, hjn, hwj, T.N, T.W, exG, x1, x2, ew]
      refine ⟨L.length - (j + 1), by omega, hJ _ _ _ ⟨_, j + 1, G2, rfl, rfl, hjn, rfl, rfl, rfl, rfl, by rw [hnext]; exact w2, hch.trans c2 ?_, fun g hg => .inr (Nat.le_trans hch.1 (hG2 g hg))⟩⟩
      intro c hc
      rcases List.mem_cons.1 hc with rfl | hc
      · exact .inl (by simp)
      · rcases hG' c hc with h | h
        · exact .inl (by simp [h])
        · exact .inr h
    · have d0 : decide ((j : Int) < (L.length : Nat)) = false := dec_false (by omega)
      rw [List.take_of_length_le (by omega)] at w'
      simp [evB, recheck, wantsOp, AV.same, sames, eqCells, eqLeaf, toL_some, asc, fzero, fnone, List.map_cons, List.map_nil, resVals, resVal, resOf, partV, fillA, putCells, fillEls, strBin, minV, optNat, appendEls, elsOf, sliceSlV, sliceStrV, List.replicate, List.getElem?_append_left, List.getElem?_append_right, List.set_append_left, List.set_append_right, List.getElem?_set_self, List.getElem?_set_ne, f0, f8, f9, f10, lv, d0, hjn]
      refine hR _ ?_
      simp [evB, recheck, wantsOp, AV.same, sames, eqCells, eqLeaf, toL_some, asc, fzero, fnone, List.map_cons, List.map_nil, resVals, resVal, resOf, partV, fillA, putCells, fillEls, strBin, minV, optNat, appendEls, elsOf, sliceSlV, sliceStrV, List.replicate, List.getElem?_append_left, List.getElem?_append_right, List.set_append_left, List.set_append_right, List.getElem?_set_self, List.getElem?_set_ne]
      exact hQ _ ⟨k', G', rfl, w', hch, hG'⟩
set_option maxHeartbeats 4000000 in
theorem texts_loop {fs : FuncId → Option SFunc} {ex : FuncId → List AV → M AV} (T : Tbl fs ex) {k : H} {b : Nat} {s : List UInt8} {G : List Nat} {v : AV} {L : List (List UInt8)} (w : Wr k b s G) (hv : RdS k 1 v (L.map strc)) (hd : ∀ c ∈ foot v, c ∉ b :: G)
    (hr : ∀ x ∈ L, x.length ≤ 255) (hl : L.length < 4294967296) (hn : s.length + 256 * L.length ≤ 4294967296) :
    Yld (call fs ex 23 [.ptr b 0 0, v] k) fun r => ∃ k' G', r = (.tuple [], k') ∧ Wr k' b (s ++ L.flatMap textS) G' ∧ Chg k k' (b :: G) ∧ ∀ g ∈ G', g ∈ G ∨ k.length ≤ g := by
  refine yld_shut fun Q hQ => ?_
  rw [call_eq fs ex (f := 23) (sf := sf23) T.texts]
  have lv := hv.len
  rw [List.length_map] at lv
  simp [sf23, evB, recheck, wantsOp, AV.same, sames, eqCells, eqLeaf, toL_some, asc, fzero, fnone, List.map_cons, List.map_nil, resVals, resVal, resOf, partV, fillA, putCells, fillEls, strBin, minV, optNat, appendEls, elsOf, sliceSlV, sliceStrV, List.replicate, List.getElem?_append_left, List.getElem?_append_right, List.set_append_left, List.set_append_right, List.getElem?_set_self, List.getElem?_set_ne, lv]
  repeat (first | apply yld_endFn | apply yld_seqK | apply yld_blockK | apply yld_regK | apply yld_opsK | apply yld_putK | apply yld_stgK | apply yld_chkK)
  refine yld_rounds (fun m e k' => ∃ f j G', e = toL 25 f ∧ m = L.length - j ∧ j ≤ L.length ∧ f 0 = .ptr b 0 0 ∧ f 8 = v ∧ f 9 = .int .i64 (L.length : Nat) ∧ f 10 = .int .i64 (j : Nat) ∧ Wr k' b (s ++ (L.take j).flatMap textS) G' ∧ Chg k k' (b :: G) ∧ ∀ g ∈ G', g ∈ G ∨ k.length ≤ g) (L.length - 0) ?_ ?_
  · exact ⟨_, 0, G, rfl, rfl, Nat.zero_le _, rfl, rfl, rfl, rfl, by simpa using w, Chg.refl _ _, fun g hg => .inl hg⟩
  · rintro J R hJ hR m e k' ⟨f, j, G', rfl, rfl, hj, f0, f8, f9, f10, w', hch, hG'⟩
    by_cases hjn : j < L.length
    · have d0 : decide ((j : Int) < (L.length : Nat)) = true := dec_true (by omega)
      have hwj : IntKind.i64.wrap ((j : Int) + 1) = ((j + 1 : Nat) : Int) := wrap_i64 (by omega) (by omega)
      obtain ⟨iv, gv⟩ := (hv.keep hch hd).idx (i := j) (by rw [List.length_map]; exact hjn)
      have hg : (L.map strc)[j]? = some (strc L[j]) := by simp [hjn]
      rw [hg] at gv
      unfold strc at gv
      have hx := hr L[j] (List.getElem_mem hjn)
      have x2 : ¬ 255 < L[j].length := by omega
      have hlen := flat_textS (L.take j) (fun x hx => hr x (List.mem_of_mem_take hx))
      rw [List.length_take] at hlen
      obtain ⟨k2, G2, ew, w2, c2, hG2⟩ := write_step w' (textS_ne L[j]) (by rw [List.length_append, textS_len]; omega)
      have hnext : s ++ (L.take (j + 1)).flatMap textS = s ++ (L.take j).flatMap textS ++ textS L[j] := by rw [take_succ_get hjn, List.flatMap_append]; simp
      simp [evB, recheck, wantsOp, AV.same, sames, eqCells, eqLeaf, toL_some, asc, fzero, fnone, List.map_cons, List.map_nil, resVals, resVal, resOf, partV, fillA, putCells, fillEls, strBin, minV, optNat, appendEls, elsOf, sliceSlV, sliceStrV, List.replicate, List.getElem?_append_left, List.getElem?_append_right, List.set_append_left, List.set_append_right, List.getElem?_set_self, List.getElem?_set_ne, f0, f8, f9, f10, lv, iv, gv, d0, hjn, hwj, T.T, T.W, exG, x2, ew]
      refine ⟨L.length - (j + 1), by omega, hJ _ _ _ ⟨_, j + 1, G2, rfl, rfl, hjn, rfl, rfl, rfl, rfl, by rw [hnext]; exact w2, hch.trans c2 ?_, fun g hg => .inr (Nat.le_trans hch.1 (hG2 g hg))⟩⟩
      intro c hc
      rcases List.mem_cons.1 hc with rfl | hc
      · exact .inl (by simp)
      · rcases hG' c hc with h | h
        · exact .inl (by simp [h])
        · exact .inr h
    · have d0 : decide ((j : Int) < (L.length : Nat)) = false := dec_false (by omega)
      rw [List.take_of_length_le (by omega)] at w'
      simp [evB, recheck, wantsOp, AV.same, sames, eqCells, eqLeaf, toL_some, asc, fzero, fnone, List.map_cons, List.map_nil, resVals, resVal, resOf, partV, fillA, putCells, fillEls, strBin, minV, optNat, appendEls, elsOf, sliceSlV, sliceStrV, List.replicate, List.getElem?_append_left, List.getElem?_append_right, List.set_append_left, List.set_append_right, List.getElem?_set_self, List.getElem?_set_ne, f0, f8, f9, f10, lv, d0, hjn]
      refine hR _ ?_
      simp [evB, recheck, wantsOp, AV.same, sames, eqCells, eqLeaf, toL_some, asc, fzero, fnone, List.map_cons, List.map_nil, resVals, resVal, resOf, partV, fillA, putCells, fillEls, strBin, minV, optNat, appendEls, elsOf, sliceSlV, sliceStrV, List.replicate, List.getElem?_append_left, List.getElem?_append_right, List.set_append_left, List.set_append_right, List.getElem?_set_self, List.getElem?_set_ne]
      exact hQ _ ⟨k', G', rfl, w', hch, hG'⟩
theorem nums_built {fs : FuncId → Option SFunc} {ex : FuncId → List AV → M AV} (T : Tbl fs ex) {k : H} {b : Nat} {s : List UInt8} {G : List Nat} (L : List Int) (x : Bool) (w : Wr k b s G) (hr : ∀ x ∈ L, 0 ≤ x ∧ x ≤ 65535) (hl : L.length < 4294967296) (hn : s.length + 2 * L.length ≤ 4294967296) :
    ∃ k' G', call fs ex 19 [.ptr b 0 0, .slice k.length 1 0 L.length L.length x] (k ++ [.row 1 (L.map intc) true true]) = some (.tuple [], k') ∧ Wr k' b (s ++ L.flatMap numS) G' ∧ Chg k k' (b :: G) ∧ ∀ g ∈ G', g ∈ G ∨ k.length ≤ g := by
  have hlt := w.lt
  obtain ⟨_, e, k', G', rfl, w', hc, hg⟩ := nums_loop T (w.keep (Chg.app k [.row 1 (L.map intc) true true] []) (by simp) (by simp)) (v := .slice k.length 1 0 L.length L.length x) (L := L) (.inr (.inr ⟨k.length, L.length, x, L.map intc, true, true, by simp, by simp, List.take_length, Nat.le_refl _⟩)) (by
    intro c hc hm
    simp [foot] at hc
    subst hc
    have := hlt _ hm
    omega) hr hl hn
  exact ⟨k', G', e, w', (Chg.app k _ _).trans hc (fun c h => .inl h), fun g h => (hg g h).imp id (fun h => by simp at h; omega)⟩
theorem texts_built {fs : FuncId → Option SFunc} {ex : FuncId → List AV → M AV} (T : Tbl fs ex) {k : H} {b : Nat} {s : List UInt8} {G : List Nat} (L : List (List UInt8)) (x : Bool) (w : Wr k b s G) (hr : ∀ x ∈ L, x.length ≤ 255) (hl : L.length < 4294967296) (hn : s.length + 256 * L.length ≤ 4294967296) :
    ∃ k' G', call fs ex 23 [.ptr b 0 0, .slice k.length 1 0 L.length L.length x] (k ++ [.row 1 (L.map strc) true true]) = some (.tuple [], k') ∧ Wr k' b (s ++ L.flatMap textS) G' ∧ Chg k k' (b :: G) ∧ ∀ g ∈ G', g ∈ G ∨ k.length ≤ g := by
  have hlt := w.lt
  obtain ⟨_, e, k', G', rfl, w', hc, hg⟩ := texts_loop T (w.keep (Chg.app k [.row 1 (L.map strc) true true] []) (by simp) (by simp)) (v := .slice k.length 1 0 L.length L.length x) (L := L) (.inr (.inr ⟨k.length, L.length, x, L.map strc, true, true, by simp, by simp, List.take_length, Nat.le_refl _⟩)) (by
    intro c hc hm
    simp [foot] at hc
    subst hc
    have := hlt _ hm
    omega) hr hl hn
  exact ⟨k', G', e, w', (Chg.app k _ _).trans hc (fun c h => .inl h), fun g h => (hg g h).imp id (fun h => by simp at h; omega)⟩
theorem itemS_len {x : It} (h : x.1.length ≤ 255 ∧ x.2.length ≤ 255) : (itemS x).length ≤ 512 := by unfold itemS; rw [List.length_append, textS_len, textS_len]; omega
theorem flat_itemS : ∀ (L : List It), (∀ x ∈ L, x.1.length ≤ 255 ∧ x.2.length ≤ 255) → (L.flatMap itemS).length ≤ 512 * L.length
  | [], _ => by simp
  | x :: l, h => by
    have ih := flat_itemS l (fun y hy => h y (by simp [hy]))
    have := itemS_len (h x (by simp))
    rw [List.flatMap_cons, List.length_append, List.length_cons]; omega
set_option maxHeartbeats 4000000 in
theorem items_loop {fs : FuncId → Option SFunc} {ex : FuncId → List AV → M AV} (T : Tbl fs ex) {k : H} {b : Nat} {s : List UInt8} {G : List Nat} {v : AV} {X : List It} (w : Wr k b s G) (hv : RdS k 2 v (X.map itc)) (hd : ∀ c ∈ foot0 v, c ∉ b :: G)
    (hr : X.length ≤ 40 ∧ ∀ x ∈ X, x.1.length ≤ 255 ∧ x.2.length ≤ 255) (hn : s.length + 20482 ≤ 4294967296) :
    Yld (call fs ex 22 [.ptr b 0 0, v] k) fun r => ∃ k' G', r = (.tuple [], k') ∧ Wr k' b (s ++ itemsS X) G' ∧ Chg k k' (b :: G) ∧ ∀ g ∈ G', g ∈ G ∨ k.length ≤ g := by
  refine yld_shut fun Q hQ => ?_
  rw [call_eq fs ex (f := 22) (sf := sf22) T.items]
  have lv := hv.len
  rw [List.length_map] at lv
  have cv := hv.cells
  obtain ⟨k1, G1, e1, w1, c1, g1⟩ := nums_built T [(X.length : Int)] true w (by intro x hx; simp at hx; subst hx; have := hr.1; omega) (by simp) (by simp; omega)
  simp only [List.map_cons, List.map_nil, intc, List.length_cons, List.length_nil, List.flatMap_cons, List.flatMap_nil, List.append_nil] at e1 w1
  simp [sf22, evB, recheck, wantsOp, AV.same, sames, eqCells, eqLeaf, toL_some, asc, fzero, fnone, List.map_cons, List.map_nil, resVals, resVal, resOf, partV, fillA, putCells, fillEls, strBin, minV, optNat, appendEls, elsOf, sliceSlV, sliceStrV, List.replicate, List.getElem?_append_left, List.getElem?_append_right, List.set_append_left, List.set_append_right, List.getElem?_set_self, List.getElem?_set_ne, lv, cv.1, cv.2.1, cv.2.2, e1]
  repeat (first | apply yld_endFn | apply yld_seqK | apply yld_blockK | apply yld_regK | apply yld_opsK | apply yld_putK | apply yld_stgK | apply yld_chkK)
  refine yld_rounds (fun m e k' => ∃ f j G', e = toL 25 f ∧ m = X.length - j ∧ j ≤ X.length ∧ f 0 = .ptr b 0 0 ∧ f 11 = v ∧ f 12 = .int .i64 (X.length : Nat) ∧ f 13 = .int .i64 (j : Nat) ∧ Wr k' b (s ++ numS (X.length : Nat) ++ (X.take j).flatMap itemS) G' ∧ Chg k k' (b :: G) ∧ ∀ g ∈ G', g ∈ G ∨ k.length ≤ g) (X.length - 0) ?_ ?_
  · exact ⟨_, 0, G1, rfl, rfl, Nat.zero_le _, rfl, rfl, rfl, rfl, by simpa using w1, c1, g1⟩
  · rintro J R hJ hR m e k' ⟨f, j, G', rfl, rfl, hj, f0, f11, f12, f13, w', hch, hG'⟩
    by_cases hjn : j < X.length
    · have d0 : decide ((j : Int) < (X.length : Nat)) = true := dec_true (by omega)
      have hwj : IntKind.i64.wrap ((j : Int) + 1) = ((j + 1 : Nat) : Int) := wrap_i64 (by have := hr.1; omega) (by have := hr.1; omega)
      obtain ⟨iv, gv⟩ := (hv.keep0 hch hd).idx (i := j) (by rw [List.length_map]; exact hjn)
      have hg : (X.map itc)[j]? = some (itc X[j]) := by simp [hjn]
      rw [hg] at gv
      unfold itc at gv
      have hx := hr.2 X[j] (List.getElem_mem hjn)
      have hlen := flat_itemS (X.take j) (fun x hx => hr.2 x (List.mem_of_mem_take hx))
      rw [List.length_take] at hlen
      have hr1 := hr.1
      have wk := w'.keep (Chg.app k' [.row 2 [[.str X[j].1, .str X[j].2]] true true] []) (by simp) (by simp)
      obtain ⟨k2, G2, e2, w2, c2, g2⟩ := texts_built T [X[j].1, X[j].2] true wk (by intro x hx'; simp at hx'; rcases hx' with rfl | rfl; exact hx.1; exact hx.2) (by simp) (by simp only [List.length_append, List.length_cons, List.length_nil, numS_len]; omega)
      have hnext : s ++ numS (X.length : Nat) ++ (X.take (j + 1)).flatMap itemS = s ++ numS (X.length : Nat) ++ (X.take j).flatMap itemS ++ (textS X[j].1 ++ textS X[j].2) := by rw [take_succ_get hjn, List.flatMap_append]; simp [itemS]
      simp only [List.map_cons, List.map_nil, strc, List.length_cons, List.length_nil, List.flatMap_cons, List.flatMap_nil, List.append_nil, List.length_append, List.append_assoc, List.cons_append, List.nil_append, Nat.zero_add, Nat.reduceAdd] at e2
      simp only [List.flatMap_cons, List.flatMap_nil, List.append_nil] at w2
      simp [evB, recheck, wantsOp, AV.same, sames, eqCells, eqLeaf, toL_some, asc, fzero, fnone, List.map_cons, List.map_nil, resVals, resVal, resOf, partV, fillA, putCells, fillEls, strBin, minV, optNat, appendEls, elsOf, sliceSlV, sliceStrV, List.replicate, List.getElem?_append_left, List.getElem?_append_right, List.set_append_left, List.set_append_right, List.getElem?_set_self, List.getElem?_set_ne, f0, f11, f12, f13, lv, iv, gv, d0, hjn, hwj, e2, cv.1, cv.2.1, cv.2.2]
      refine ⟨X.length - (j + 1), by omega, hJ _ _ _ ⟨_, j + 1, G2, rfl, rfl, hjn, rfl, rfl, rfl, rfl, by rw [hnext]; exact w2, hch.trans ((Chg.app k' _ _).trans c2 (fun c h => .inl h)) ?_, fun g hg => ?_⟩⟩
      · intro c hc
        rcases List.mem_cons.1 hc with rfl | hc
        · exact .inl (by simp)
        · rcases hG' c hc with h | h
          · exact .inl (by simp [h])
          · exact .inr h
      · have h1 := hch.1
        rcases g2 g hg with h | h
        · exact hG' g h
        · exact .inr (by simp at h; omega)
    · have d0 : decide ((j : Int) < (X.length : Nat)) = false := dec_false (by omega)
      rw [List.take_of_length_le (by omega)] at w'
      simp [evB, recheck, wantsOp, AV.same, sames, eqCells, eqLeaf, toL_some, asc, fzero, fnone, List.map_cons, List.map_nil, resVals, resVal, resOf, partV, fillA, putCells, fillEls, strBin, minV, optNat, appendEls, elsOf, sliceSlV, sliceStrV, List.replicate, List.getElem?_append_left, List.getElem?_append_right, List.set_append_left, List.set_append_right, List.getElem?_set_self, List.getElem?_set_ne, f0, f11, f12, f13, lv, d0, hjn]
      refine hR _ ?_
      simp [evB, recheck, wantsOp, AV.same, sames, eqCells, eqLeaf, toL_some, asc, fzero, fnone, List.map_cons, List.map_nil, resVals, resVal, resOf, partV, fillA, putCells, fillEls, strBin, minV, optNat, appendEls, elsOf, sliceSlV, sliceStrV, List.replicate, List.getElem?_append_left, List.getElem?_append_right, List.set_append_left, List.set_append_right, List.getElem?_set_self, List.getElem?_set_ne]
      exact hQ _ ⟨k', G', rfl, by simpa [itemsS] using w', hch, hG'⟩
/-- A writer behind K0, which stays: it has s, of no more than n bytes. -/
def WrK (K0 K : H) (s : List UInt8) (n : Nat) : Prop := ∃ G, Wr K K0.length s G ∧ (∀ g ∈ G, K0.length < g) ∧ Chg K0 K [] ∧ s.length ≤ n
section
variable {fs : FuncId → Option SFunc} {ex : FuncId → List AV → M AV} {K0 K : H} {s : List UInt8} {n : Nat}
theorem WrK.new (K0 : H) : WrK K0 (K0 ++ [.bld .nilslice]) [] 0 := ⟨[], .inl ⟨by simp, rfl, rfl⟩, by simp, Chg.app _ _ _, Nat.le_refl _⟩
theorem WrK.at_ (w : WrK K0 K s n) {i : Nat} {x : Blk} (h : K0[i]? = some x) : K[i]? = some x := by
  obtain ⟨G, _, _, hc, _⟩ := w
  exact hc.2 _ _ (by simp) h
theorem WrK.len (w : WrK K0 K s n) : K0.length < K.length := by
  obtain ⟨G, w, _, hc, _⟩ := w
  exact w.lt _ (by simp)
theorem wrk_step {K' : H} {t : List UInt8} {m : Nat} {G G' : List Nat} (hG : ∀ g ∈ G, K0.length < g) (hc : Chg K0 K []) (hl : K0.length < K.length) (w' : Wr K' K0.length (s ++ t) G') (hc' : Chg K K' (K0.length :: G)) (hg' : ∀ g ∈ G', g ∈ G ∨ K.length ≤ g) (hn : s.length ≤ n) (ht : t.length ≤ m) : WrK K0 K' (s ++ t) (n + m) := by
  refine ⟨G', w', fun g hg => ?_, hc.trans hc' fun c h => .inr ?_, by rw [List.length_append]; omega⟩
  · rcases hg' g hg with h | h
    · exact hG g h
    · omega
  · rcases List.mem_cons.1 h with rfl | h
    · exact Nat.le_refl _
    · have := hG c h; omega
theorem WrK.nums (T : Tbl fs ex) (w : WrK K0 K s n) (L : List Int) (x : Bool) (hr : ∀ x ∈ L, 0 ≤ x ∧ x ≤ 65535) (hl : L.length ≤ 100) (hn : n ≤ 1000000) :
    ∃ K', call fs ex 19 [.ptr K0.length 0 0, .slice K.length 1 0 L.length L.length x] (K ++ [.row 1 (L.map intc) true true]) = some (.tuple [], K') ∧ WrK K0 K' (s ++ L.flatMap numS) (n + 2 * L.length) := by
  have hlt := w.len
  obtain ⟨G, w, hG, hc, hs⟩ := w
  obtain ⟨K', G', e, w', c', g'⟩ := nums_built T L x w hr (by omega) (by omega)
  exact ⟨K', e, wrk_step hG hc hlt w' c' g' hs (by rw [flat_numS]; omega)⟩
theorem WrK.texts (T : Tbl fs ex) (w : WrK K0 K s n) (L : List (List UInt8)) (x : Bool) (hr : ∀ x ∈ L, x.length ≤ 255) (hl : L.length ≤ 100) (hn : n ≤ 1000000) :
    ∃ K', call fs ex 23 [.ptr K0.length 0 0, .slice K.length 1 0 L.length L.length x] (K ++ [.row 1 (L.map strc) true true]) = some (.tuple [], K') ∧ WrK K0 K' (s ++ L.flatMap textS) (n + 256 * L.length) := by
  have hlt := w.len
  obtain ⟨G, w, hG, hc, hs⟩ := w
  obtain ⟨K', G', e, w', c', g'⟩ := texts_built T L x w hr (by omega) (by omega)
  exact ⟨K', e, wrk_step hG hc hlt w' c' g' hs (flat_textS L hr)⟩
theorem WrK.items (T : Tbl fs ex) (w : WrK K0 K s n) {v : AV} {X : List It} (hv : RdS K0 2 v (X.map itc)) (hr : X.length ≤ 40 ∧ ∀ x ∈ X, x.1.length ≤ 255 ∧ x.2.length ≤ 255) (hn : n ≤ 1000000) :
    ∃ K', call fs ex 22 [.ptr K0.length 0 0, v] K = some (.tuple [], K') ∧ WrK K0 K' (s ++ itemsS X) (n + 20482) := by
  have hlt := w.len
  obtain ⟨G, w, hG, hc, hs⟩ := w
  have hlen : (itemsS X).length ≤ 20482 := by
    have := flat_itemS X hr.2
    unfold itemsS
    rw [List.length_append, numS_len]
    have := hr.1
    omega
  obtain ⟨_, e, K', G', rfl, w', c', g'⟩ := items_loop T w (hv.keep0 hc (by simp)) (by
    intro c hcc hm
    have h0 := hv.lt0 c hcc
    rcases List.mem_cons.1 hm with h | h
    · omega
    · have := hG _ h; omega) hr (by omega)
  exact ⟨K', e, wrk_step hG hc hlt w' c' g' hs hlen⟩
theorem WrK.write (T : Tbl fs ex) (w : WrK K0 K s n) {t : List UInt8} {m : Nat} (ht : t ≠ []) (hm : t.length ≤ m) (hn : n + m ≤ 4000000000) :
    ∃ K', call fs ex 20 [.ptr K0.length 0 0, .str t] K = some (.tuple [.int .i64 t.length, .undef], K') ∧ WrK K0 K' (s ++ t) (n + m) := by
  have hlt := w.len
  obtain ⟨G, w, hG, hc, hs⟩ := w
  obtain ⟨K', G', e, w', c', g'⟩ := write_step w ht (by omega)
  exact ⟨K', (T.W _ _).trans e, wrk_step hG hc hlt w' c' (fun g h => .inr (g' g h)) hs hm⟩
theorem WrK.string (T : Tbl fs ex) (w : WrK K0 K s n) (hn : n ≤ 4000000000) : ∃ K', call fs ex 24 [.ptr K0.length 0 0] K = some (.str s, K') ∧ Chg K0 K' [] := by
  obtain ⟨G, w, hG, hc, hs⟩ := w
  obtain ⟨K', e, c'⟩ := string_step w (by omega)
  exact ⟨K', (T.S _ _).trans e, hc.trans c' fun c h => .inr (by have := hG c h; omega)⟩
theorem chg_app {K0 K : H} (h : Chg K0 K []) : ∃ z, K = K0 ++ z := by
  refine ⟨K.drop K0.length, ?_⟩
  conv => lhs; rw [← List.take_append_drop K0.length K]
  congr 1
  apply List.ext_getElem?
  intro i
  rw [List.getElem?_take]
  by_cases hi : i < K0.length
  · rw [if_pos hi, h.2 i K0[i] (by simp) (by simp [hi]), List.getElem?_eq_getElem hi]
  · rw [if_neg hi, List.getElem?_eq_none (by omega)]
end
end Go.Proofs.YtgnenipkebelfaaGreatDoor.Lt
