/- Letters: LetterTells. -/
import Derived.Test.YtgnenipkebelfaaGreatDoorLzD
set_option maxRecDepth 100000
set_option linter.unusedVariables false
set_option linter.unusedSimpArgs false
namespace Go.Proofs.YtgnenipkebelfaaGreatDoor.Lz
open Go Go.Eng F Pk Bk Lt

theorem app_len {a b : List UInt8} {m n : Nat} (h1 : a.length ≤ m) (h2 : b.length ≤ n) : (a ++ b).length ≤ m + n := by rw [List.length_append]; exact Nat.add_le_add h1 h2
theorem text_len256 {s : List UInt8} (h : s.length ≤ 255) : (textS s).length ≤ 256 := by rw [textS_len]; omega
theorem putS_leZ {l : Ltr} (g : Lt.Good l) : (putS l).length ≤ 100000 :=
  Nat.le_trans (app_len (Nat.le_of_eq (numS_len _)) (app_len (Nat.le_of_eq (numS_len _)) (app_len (Nat.le_of_eq (numS_len _)) (app_len (Nat.le_of_eq (numS_len _)) (app_len (Nat.le_of_eq (numS_len _)) (app_len (Nat.le_of_eq (numS_len _)) (app_len (Nat.le_of_eq (numS_len _)) (app_len (Nat.le_of_eq (wideS_len _)) (app_len (Nat.le_of_eq (wideS_len _)) (app_len (itemsS_len g.it) (app_len (Nat.le_of_eq (numS_len _)) (app_len (text_len256 g.key) (app_len (text_len256 g.value) (app_len (text_len256 g.to2) (app_len (Nat.le_of_eq (numS_len _)) (app_len (Nat.le_of_eq (numS_len _)) (app_len (text_len256 g.tv) (app_len (itemsS_len g.ti) (app_len (Nat.le_of_eq (numS_len _)) (app_len (text_len256 g.next) (Nat.le_of_eq (numS_len _)))))))))))))))))))))) (by decide)
theorem getS_nil : (getS []).2 = false := by
  cases h : (getS []).2
  · rfl
  · have := (getS_ok h).2.2
    have h2 := put_pos (getS []).1
    rw [this] at h2
    simp at h2
def namesL : List (List AV) := [[AV.str []], [AV.str [97, 115, 107]], [AV.str [116, 111, 108, 100]], [AV.str [108, 111, 97, 100]], [AV.str [108, 111, 97, 100, 115]], [AV.str [108, 111, 99, 107]], [AV.str [108, 111, 99, 107, 101, 100]], [AV.str [117, 110, 108, 111, 99, 107]], [AV.str [103, 105, 118, 101]], [AV.str [103, 97, 118, 101]], [AV.str [111, 102, 102, 101, 114]], [AV.str [97, 99, 99, 101, 112, 116]], [AV.str [99, 104, 117, 110, 107]], [AV.str [103, 111, 116]], [AV.str [99, 111, 109, 109, 105, 116]], [AV.str [100, 111, 110, 101]], [AV.str [100, 114, 111, 112]]]
theorem namesL_at : ∀ n : Nat, n < 17 → namesL[n]? = some [.str (nameS (n : Nat))]
  | 0, _ => rfl
  | 1, _ => rfl
  | 2, _ => rfl
  | 3, _ => rfl
  | 4, _ => rfl
  | 5, _ => rfl
  | 6, _ => rfl
  | 7, _ => rfl
  | 8, _ => rfl
  | 9, _ => rfl
  | 10, _ => rfl
  | 11, _ => rfl
  | 12, _ => rfl
  | 13, _ => rfl
  | 14, _ => rfl
  | 15, _ => rfl
  | 16, _ => rfl
  | n + 17, h => absurd h (by omega)
set_option maxHeartbeats 32000000 in
theorem tells_law {k : H} {c : List AV} {l : Ltr} (hc : IsL k c l) (w : Wf l) (b : List UInt8) : Yld (call fsZ exZ 3 [.agg c, .str b] k) fun r => r.1 = .bool true := by
  refine yld_shut fun Q hQ => ?_
  have hQ' : ∀ k, Q (.bool true, k) := fun k => hQ _ rfl
  clear hQ
  rw [call_eq fsZ exZ (f := 3) (sf := sf3) rfl]
  have hx0 := hc.app [Blk.row 21 [c] true true]
  obtain ⟨q1, e1, hlen⟩ := z_Light hx0
  have e3 := z_alive (k ++ [Blk.row 21 [c] true true])
  obtain ⟨v1, v2, rfl, h1, h2, b1, b2⟩ := hc
  have s1 := h1.cells
  have s2 := h2.cells
  cases q1
  · unfold ltc at *
    simp [sf3, Lt.evB, recheck, wantsOp, AV.same, sames, eqCells, eqLeaf, toL_some, asc, fzero, fnone, List.map_cons, List.map_nil, resVals, resVal, resOf, partV, fillA, putCells, fillEls, strBin, minV, optNat, appendEls, elsOf, sliceSlV, sliceStrV, List.replicate, List.getElem?_append_left, List.getElem?_append_right, List.set_append_left, List.set_append_right, List.getElem?_set_self, List.getElem?_set_ne, e1, e3, hQ', s1.1, s1.2.1, s1.2.2, s2.1, s2.2.1, s2.2.2]
  obtain ⟨hl1, hl2⟩ := hlen rfl
  by_cases hb : 3000 < b.length
  · have hbi : (3000 : Int) < (b.length : Nat) := by omega
    unfold ltc at *
    simp [sf3, Lt.evB, recheck, wantsOp, AV.same, sames, eqCells, eqLeaf, toL_some, asc, fzero, fnone, List.map_cons, List.map_nil, resVals, resVal, resOf, partV, fillA, putCells, fillEls, strBin, minV, optNat, appendEls, elsOf, sliceSlV, sliceStrV, List.replicate, List.getElem?_append_left, List.getElem?_append_right, List.set_append_left, List.set_append_right, List.getElem?_set_self, List.getElem?_set_ne, e1, e3, hb, hbi, hQ', s1.1, s1.2.1, s1.2.2, s2.1, s2.2.1, s2.2.2]
  have hbi : ¬ (3000 : Int) < (b.length : Nat) := by omega
  -- what is lent
  obtain ⟨A, hA⟩ : ∃ A, A = k ++ [Blk.row 21 [ltc l v1 v2] true true, Blk.row 21 [ltc l v1 v2] true true] := ⟨_, rfl⟩
  have g1 : RdS A 2 v1 (l.ti.map itc) := by rw [hA]; exact rds_app h1
  have g2 : RdS A 2 v2 (l.it.map itc) := by rw [hA]; exact rds_app h2
  have gx : A[k.length]? = some (Blk.row 21 [ltc l v1 v2] true true) := by rw [hA]; simp
  have gm : A[k.length + 1]? = some (Blk.row 21 [ltc l v1 v2] true true) := by rw [hA]; simp
  obtain ⟨⟨m2, A1⟩, e4, _, _, hr, n2, c1, f1⟩ := lent_call (X := l.it) g2 (by omega)
  cases hr
  obtain ⟨⟨m1, A2⟩, e5, _, _, hr, n1, c2, f2⟩ := lent_call (X := l.ti) (g1.keep c1 (by simp)) (by omega)
  cases hr
  have c12 := c1.trans c2 (by simp)
  have lA : k.length + 2 = A.length := by rw [hA]; simp
  have lA1 := c1.1
  have gx1 := c1.2 _ _ (by simp) gx
  have gm1 := c1.2 _ _ (by simp) gm
  have gx2 := c12.2 _ _ (by simp) gx
  have gm2 := c12.2 _ _ (by simp) gm
  obtain ⟨A3, hA3⟩ : ∃ A3, A3 = A2.set (k.length + 1) (Blk.row 21 [ltc l m1 m2] true true) := ⟨_, rfl⟩
  have c3 : Chg A2 A3 [k.length + 1] := by rw [hA3]; exact (Chg.refl _ _).set (.inl (by simp))
  have gx3 := c3.2 _ _ (by simp) gx2
  have gm3 : A3[k.length + 1]? = some (Blk.row 21 [ltc l m1 m2] true true) := by rw [hA3]; exact get_set_same gm2
  have n2' : Lent A3 m2 l.it := (n2.keep c2 (by simp)).keep c3 (fun a ha hm => by have := f1 a ha; simp at hm; omega)
  have n1' : Lent A3 m1 l.ti := n1.keep c3 (fun a ha hm => by have := f2 a ha; simp at hm; omega)
  have k1 : RdS A3 2 v1 (l.ti.map itc) := by
    rcases g1 with h | h | ⟨bb, cc, x, els, wr, ap, e, hbb, h3, h4⟩
    · exact .inl h
    · exact .inr (.inl h)
    · refine .inr (.inr ⟨bb, cc, x, els, wr, ap, e, c3.2 _ _ (fun hm => ?_) (c12.2 _ _ (by simp) hbb), h3, h4⟩)
      simp at hm
      subst hm
      rw [gm] at hbb
      cases hbb
  have k2 : RdS A3 2 v2 (l.it.map itc) := by
    rcases g2 with h | h | ⟨bb, cc, x, els, wr, ap, e, hbb, h3, h4⟩
    · exact .inl h
    · exact .inr (.inl h)
    · refine .inr (.inr ⟨bb, cc, x, els, wr, ap, e, c3.2 _ _ (fun hm => ?_) (c12.2 _ _ (by simp) hbb), h3, h4⟩)
      simp at hm
      subst hm
      rw [gm] at hbb
      cases hbb
  have ix : IsL A3 (ltc l v1 v2) l := ⟨v1, v2, rfl, k1, k2, by omega, by omega⟩
  have im : IsL A3 (ltc l m1 m2) l := ⟨m1, m2, rfl, n1'.rds, n2'.rds, by omega, by omega⟩
  have t1 := n1'.rds.cells
  have t2 := n2'.rds.cells
  have e6 := z_Put im
  have e7 := z_Letter ix
  have e8 := z_Right im
  have e9 : right l = true → call fsZ exZ 10 [.agg (ltc l v1 v2)] A3 = some (.str (putS l), A3) := fun h => z_rPut ix (right_iff.1 h) w
  have e10 : call fsZ exZ 11 [m2, v2] A3 = some (.bool true, A3) := (eZ_StaysItems _ _).trans (stays_call n2' k2 (by omega))
  have e11 : call fsZ exZ 11 [m1, v1] A3 = some (.bool true, A3) := (eZ_StaysItems _ _).trans (stays_call n1' k1 (by omega))
  have e4' := (eZ_LentItems _ _).trans e4
  have e5' := (eZ_LentItems _ _).trans e5
  obtain ⟨S, hS⟩ : ∃ S, S = if right l = true then putS l else [] := ⟨_, rfl⟩
  obtain ⟨ok, hok⟩ : ∃ o, o = right l := ⟨_, rfl⟩
  have e9' : ok = true → call fsZ exZ 10 [.agg (ltc l v1 v2)] A3 = some (.str S, A3) := fun h => by rw [hS, ← hok, if_pos h]; exact e9 (hok.symm.trans h)
  have hS0 : ok = false → S = [] := fun h => by rw [hS, ← hok, h]; rfl
  have hb0 : (getS S).2 = ok := by
    rw [hS]
    cases h : right l
    · rw [hok, h]; exact getS_nil
    · rw [if_pos rfl, getS_back (right_iff.1 h) w, hok, h]
  have hb1 : ok = true → (getS S).1 = l := fun h => by
    rw [hS, ← hok, if_pos h, getS_back (right_iff.1 (hok.symm.trans h)) w]
  have hSl : S.length ≤ 281474976710656 := by
    rw [hS]
    split
    · rename_i h
      have := putS_leZ (right_iff.1 h)
      omega
    · simp
  rw [← hS, ← hok] at e6
  rw [← hok] at e7 e8
  clear hS hok e9 e4 e5
  -- the book
  obtain ⟨K0, hK0⟩ : ∃ K, K = A3 ++ [bookB .nilslice .nilslice .nilslice .nilslice, Blk.row 1 [[AV.str S], [AV.str b]] true true] := ⟨_, rfl⟩
  obtain ⟨tg0, htg0⟩ : ∃ t : Nat → Nat, t = fun a => if a = A3.length then 1 else 0 := ⟨_, rfl⟩
  have bk0 : Book K0 tg0 A3.length 0 := by
    have hf := Book.fresh (k := A3) (tg := fun _ => 0)
    have := hf.stp (k' := K0) (tg' := tg0) (T := fun _ => False) (by
      refine Stp.of (F := []) ?_ (by simp) (fun a _ => by rw [htg0])
      have := Chg.app (A3 ++ [bookB .nilslice .nilslice .nilslice .nilslice]) [Blk.row 1 [[AV.str S], [AV.str b]] true true] []
      rw [hK0]
      simpa using this) (fun _ h => h.elim)
    exact this
  have st0 : Stp (fun t => t = 1 ∨ t = 2 ∨ t = 3) A3 K0 (fun _ => 0) tg0 := by
    refine Stp.of (F := []) ?_ (by simp) (fun a ha => by rw [htg0]; simp only; rw [if_neg (by omega)])
    rw [hK0]; exact Chg.app _ _ _
  have gS0 : K0[A3.length + 1]? = some (Blk.row 1 [[AV.str S], [AV.str b]] true true) := by rw [hK0]; simp
  have tS0 : tg0 (A3.length + 1) = 0 := by rw [htg0]; simp
  clear htg0
  unfold bookB at hK0
  cases hokc : ok <;> rw [hokc] at e6 e7 e8 e9' hb0 hb1 hS0
  · obtain rfl := hS0 rfl
    unfold ltc at e1 e3 e4' e5' e6 e7 e8 e9' e10 e11 gx gm gx1 gm1 gx2 gm2 gx3 gm3 hA hA3
    unfold ltc
    simp [sf3, Lt.evB, recheck, wantsOp, AV.same, sames, eqCells, eqLeaf, toL_some, asc, fzero, fnone, List.map_cons, List.map_nil, resVals, resVal, resOf, partV, fillA, putCells, fillEls, strBin, minV, optNat, appendEls, elsOf, sliceSlV, sliceStrV, List.replicate, List.getElem?_append_left, List.getElem?_append_right, List.set_append_left, List.set_append_right, List.getElem?_set_self, List.getElem?_set_ne, e1, e3, hb, hbi, hQ', ← hA, gx, get_app gx, set_app gx, get_set_same gx, get_set_app gx, set_set_app gx, len_beq gx, beq_len gx, gm, get_app gm, set_app gm, get_set_same gm, get_set_app gm, set_set_app gm, len_beq gm, beq_len gm, e4', gx1, get_app gx1, set_app gx1, get_set_same gx1, get_set_app gx1, set_set_app gx1, len_beq gx1, beq_len gx1, gm1, get_app gm1, set_app gm1, get_set_same gm1, get_set_app gm1, set_set_app gm1, len_beq gm1, beq_len gm1, e5', gx2, get_app gx2, set_app gx2, get_set_same gx2, get_set_app gx2, set_set_app gx2, len_beq gx2, beq_len gx2, gm2, get_app gm2, set_app gm2, get_set_same gm2, get_set_app gm2, set_set_app gm2, len_beq gm2, beq_len gm2, ← hA3, gx3, get_app gx3, set_app gx3, get_set_same gx3, get_set_app gx3, set_set_app gx3, len_beq gx3, beq_len gx3, gm3, get_app gm3, set_app gm3, get_set_same gm3, get_set_app gm3, set_set_app gm3, len_beq gm3, beq_len gm3, e6, e7, e8, hS0, e10, e11, ← hK0, s1.1, s1.2.1, s1.2.2, s2.1, s2.2.1, s2.2.2, t1.1, t1.2.1, t1.2.2, t2.1, t2.2.1, t2.2.2]
    repeat (first | apply yld_endFn | apply yld_seqK | apply yld_blockK | apply yld_regK | apply yld_opsK | apply yld_putK | apply yld_stgK | apply yld_chkK)
    refine yld_rounds (fun m e k' => ∃ f j tg ni, e = toL 181 f ∧ m = 2 - j ∧ j ≤ 2 ∧ f 2 = .ptr k.length 0 0 ∧ f 6 = .str [] ∧ f 7 = .bool false ∧ f 9 = .ptr A3.length 0 0 ∧ f 97 = .slice (A3.length + 1) 1 0 2 2 true ∧ f 98 = .int .i64 2 ∧ f 99 = .int .i64 (j : Nat) ∧ Book k' tg A3.length ni ∧
      Stp (fun t => t = 1 ∨ t = 2 ∨ t = 3) A3 k' (fun _ => 0) tg ∧ k'[A3.length + 1]? = some (Blk.row 1 [[AV.str []], [AV.str b]] true true) ∧ tg (A3.length + 1) = 0) (2 - 0) ?_ ?_
    · exact ⟨_, 0, tg0, 0, rfl, rfl, Nat.zero_le _, rfl, rfl, rfl, rfl, rfl, rfl, rfl, bk0, st0, gS0, tS0⟩
    · rintro J R hJ hR m e K ⟨f, j, tg, ni, rfl, rfl, hj, fx, f6, f7, f9, f97, f98, f99, bk, st, gS, tS⟩
      by_cases hjn : j < 2
      · have d0 : decide ((j : Int) < 2) = true := dec_true (by omega)
        have hji : (j : Int) < 2 := by omega
        have hwj : IntKind.i64.wrap ((j : Int) + 1) = ((j + 1 : Nat) : Int) := wrap_i64 (by omega) (by omega)
        obtain ⟨cc, hcc, hcg⟩ : ∃ cc : List UInt8, cc.length ≤ 281474976710656 ∧ [[AV.str []], [AV.str b]][j]? = some [AV.str cc] := by
          rcases (show j = 0 ∨ j = 1 by omega) with rfl | rfl
          · exact ⟨[], hSl, rfl⟩
          · exact ⟨b, by omega, rfl⟩
        have hcg' : [[AV.str []], [AV.str b]][j] = [AV.str cc] := by
          have := List.getElem?_eq_getElem (l := [[AV.str []], [AV.str b]]) (i := j) hjn
          rw [hcg] at this
          exact (Option.some.inj this).symm
        clear hcg
        obtain ⟨c, d, u1, u2, K1, K2, K4, K5, tg', ni', hc, r1, r2, r3, r4, i1, i2, y2, y4, y5, y6, bk', st'⟩ := round bk cc hcc
        have y3 := get_app (k := [Blk.row 21 [d] true true]) y2
        have x5 := (st.trans st').keep k.length _ gx3 (by simp)
        have ixx : IsL K5 (ltc l v1 v2) l := ⟨v1, v2, rfl, RdS.stp0 k1 (st.trans st') (by simp), RdS.stp0 k2 (st.trans st') (by simp), by omega, by omega⟩
        have S5 := st'.keep _ _ gS (by rw [tS]; simp)
        have tS5 : tg' (A3.length + 1) = 0 := (st'.old _ (List.getElem?_eq_some_iff.1 gS).1).trans tS
        have m8 := z_same i1 i2
        have m9 := z_same i1 ixx
        rw [same_iff.2 rfl] at m8
        obtain ⟨x, hx⟩ : ∃ x, x = getS cc := ⟨_, rfl⟩
        have hx0 : cc = [] → x.2 = false := fun h => by rw [hx, h]; exact hb0
        have hx1 : cc = [] → false = true → x.1 = l := fun h h2 => by rw [hx, h]; exact hb1 h2
        rw [← hx] at hc r1 r2 i1 i2 m9
        obtain ⟨z1, z2, hd, o1, o2, _, _⟩ := i2
        obtain ⟨z3, z4, hd3, o3, o4, _, _⟩ := i1
        have hcu := hd3.symm.trans hc
        have a1 := o1.cells
        have a2 := o2.cells
        have a3 := o3.cells
        have a4 := o4.cells
        have hu : z3 = u1 ∧ z4 = u2 := by
          unfold ltc at hcu
          simp only [List.cons.injEq, true_and, and_true] at hcu
          exact ⟨hcu.1, hcu.2⟩
        obtain ⟨rfl, rfl⟩ := hu
        have fin := fun f (h2 : f 2 = AV.ptr k.length 0 0) (h6 : f 6 = AV.str []) (h7 : f 7 = AV.bool false) (h9 : f 9 = AV.ptr A3.length 0 0) (h97 : f 97 = .slice (A3.length + 1) 1 0 2 2 true) (h98 : f 98 = AV.int .i64 2) (h99 : f 99 = .int .i64 ((j + 1 : Nat) : Int)) => hJ (2 - (j + 1)) (toL 181 f) K5 ⟨f, j + 1, tg', ni', rfl, rfl, hjn, h2, h6, h7, h9, h97, h98, h99, bk', st.trans st', S5, tS5⟩
        clear hJ o1 o2 o3 o4 hd3 hcu hx ixx bk' bk st'
        subst hc
        subst hd
        by_cases hce : cc = []
        · have h2 := hx0 hce
          have hce' : (cc == []) = true := by simpa using hce
          subst hce
          rw [h2] at r1 r2
          unfold ltc at *
          simp [Lt.evB, recheck, wantsOp, AV.same, sames, eqCells, eqLeaf, toL_some, asc, fzero, fnone, List.map_cons, List.map_nil, resVals, resVal, resOf, partV, fillA, putCells, fillEls, strBin, minV, optNat, appendEls, elsOf, sliceSlV, sliceStrV, List.replicate, List.getElem?_append_left, List.getElem?_append_right, List.set_append_left, List.set_append_right, List.getElem?_set_self, List.getElem?_set_ne, fx, f6, f7, f9, f97, f98, f99, d0, hji, hjn, hwj, gS, get_app gS, set_app gS, get_set_same gS, get_set_app gS, set_set_app gS, len_beq gS, beq_len gS, hcg', r1, r2, y2, get_app y2, set_app y2, get_set_same y2, get_set_app y2, set_set_app y2, len_beq y2, beq_len y2, y3, get_app y3, set_app y3, get_set_same y3, get_set_app y3, set_set_app y3, len_beq y3, beq_len y3, r3, y4, get_app y4, set_app y4, get_set_same y4, get_set_app y4, set_set_app y4, len_beq y4, beq_len y4, r4, y5, get_app y5, set_app y5, get_set_same y5, get_set_app y5, set_set_app y5, len_beq y5, beq_len y5, y6, get_app y6, set_app y6, get_set_same y6, get_set_app y6, set_set_app y6, len_beq y6, beq_len y6, x5, get_app x5, set_app x5, get_set_same x5, get_set_app x5, set_set_app x5, len_beq x5, beq_len x5, m8, m9, hce', s1.1, s1.2.1, s1.2.2, s2.1, s2.2.1, s2.2.2, a1.1, a1.2.1, a1.2.2, a2.1, a2.2.1, a2.2.2, a3.1, a3.2.1, a3.2.2, a4.1, a4.2.1, a4.2.2]
          exact ⟨2 - (j + 1), by omega, fin _ rfl rfl rfl rfl rfl rfl rfl⟩
        · have hce' : (cc == []) = false := by simpa using hce
          cases h2 : x.2 <;> rw [h2] at r1 r2 <;> (
          unfold ltc at *
          simp [Lt.evB, recheck, wantsOp, AV.same, sames, eqCells, eqLeaf, toL_some, asc, fzero, fnone, List.map_cons, List.map_nil, resVals, resVal, resOf, partV, fillA, putCells, fillEls, strBin, minV, optNat, appendEls, elsOf, sliceSlV, sliceStrV, List.replicate, List.getElem?_append_left, List.getElem?_append_right, List.set_append_left, List.set_append_right, List.getElem?_set_self, List.getElem?_set_ne, fx, f6, f7, f9, f97, f98, f99, d0, hji, hjn, hwj, gS, get_app gS, set_app gS, get_set_same gS, get_set_app gS, set_set_app gS, len_beq gS, beq_len gS, hcg', r1, r2, y2, get_app y2, set_app y2, get_set_same y2, get_set_app y2, set_set_app y2, len_beq y2, beq_len y2, y3, get_app y3, set_app y3, get_set_same y3, get_set_app y3, set_set_app y3, len_beq y3, beq_len y3, r3, y4, get_app y4, set_app y4, get_set_same y4, get_set_app y4, set_set_app y4, len_beq y4, beq_len y4, r4, y5, get_app y5, set_app y5, get_set_same y5, get_set_app y5, set_set_app y5, len_beq y5, beq_len y5, y6, get_app y6, set_app y6, get_set_same y6, get_set_app y6, set_set_app y6, len_beq y6, beq_len y6, x5, get_app x5, set_app x5, get_set_same x5, get_set_app x5, set_set_app x5, len_beq x5, beq_len x5, m8, m9, hce, hce', s1.1, s1.2.1, s1.2.2, s2.1, s2.2.1, s2.2.2, a1.1, a1.2.1, a1.2.2, a2.1, a2.2.1, a2.2.2, a3.1, a3.2.1, a3.2.2, a4.1, a4.2.1, a4.2.2]
          exact ⟨2 - (j + 1), by omega, fin _ rfl rfl rfl rfl rfl rfl rfl⟩)
      · have hj2 : j = 2 := by omega
        subst hj2
        simp [Lt.evB, recheck, wantsOp, AV.same, sames, eqCells, eqLeaf, toL_some, asc, fzero, fnone, List.map_cons, List.map_nil, resVals, resVal, resOf, partV, fillA, putCells, fillEls, strBin, minV, optNat, appendEls, elsOf, sliceSlV, sliceStrV, List.replicate, List.getElem?_append_left, List.getElem?_append_right, List.set_append_left, List.set_append_right, List.getElem?_set_self, List.getElem?_set_ne, fx, f6, f7, f9, f97, f98, f99]
        refine hR _ ?_
        have xx := st.keep k.length _ gx3 (by simp)
        obtain ⟨NL, hNL⟩ : ∃ n, n = namesL := ⟨_, rfl⟩
        have hNl : NL.length = 17 := by rw [hNL]; rfl
        obtain ⟨K9, hK9⟩ : ∃ K9, K9 = K ++ [Blk.row 1 NL true true] := ⟨_, rfl⟩
        have g9 : K9[K.length]? = some (Blk.row 1 NL true true) := by rw [hK9]; simp
        have xx9 : K9[k.length]? = some (Blk.row 21 [ltc l v1 v2] true true) := by rw [hK9]; exact get_app xx
        have p1 := z_Name l.kind K9
        have bk9 : Book K9 tg A3.length ni := bk.stp (T := fun _ => False) (by rw [hK9]; exact Stp.of (F := []) (Chg.app _ _ _) (by simp) (fun _ _ => rfl)) (fun _ h => h.elim)
        obtain ⟨⟨_, Kz⟩, p2, hv⟩ := bk9.apart
        simp only at hv
        subst hv
        have p2' := (eZ_Apart _ _).trans p2
        have hlit := hK9
        rw [hNL] at hlit
        unfold namesL at hlit
        unfold ltc at xx xx9
        by_cases n0 : 0 ≤ l.kind
        · by_cases n17 : l.kind < 17
          · obtain ⟨n, hn⟩ : ∃ n : Nat, l.kind = n := ⟨l.kind.toNat, by omega⟩
            have hn17 : n < 17 := by omega
            have hni : (n : Int) < 17 := by omega
            have hNn : NL[n]? = some [.str (nameS (n : Nat))] := by rw [hNL]; exact namesL_at n hn17
            have hNg : NL[n]'(by omega) = [.str (nameS (n : Nat))] := by
              have := List.getElem?_eq_getElem (l := NL) (i := n) (by omega)
              rw [hNn] at this
              exact (Option.some.inj this).symm
            have hnl : n < NL.length := by omega
            rw [hn] at p1 xx xx9
            generalize nameS (n : Nat) = NS at *
            simp [Lt.evB, recheck, wantsOp, AV.same, sames, eqCells, eqLeaf, toL_some, asc, fzero, fnone, List.map_cons, List.map_nil, resVals, resVal, resOf, partV, fillA, putCells, fillEls, strBin, minV, optNat, appendEls, elsOf, sliceSlV, sliceStrV, List.replicate, List.getElem?_append_left, List.getElem?_append_right, List.set_append_left, List.set_append_right, List.getElem?_set_self, List.getElem?_set_ne, fx, f9, ← hlit, xx, get_app xx, set_app xx, get_set_same xx, get_set_app xx, set_set_app xx, len_beq xx, beq_len xx, xx9, get_app xx9, set_app xx9, get_set_same xx9, get_set_app xx9, set_set_app xx9, len_beq xx9, beq_len xx9, g9, get_app g9, set_app g9, get_set_same g9, get_set_app g9, set_set_app g9, len_beq g9, beq_len g9, hn17, hni, hnl, hNl, hNn, hNg, p1, p2', hQ']
          · have hn17 : 17 ≤ l.kind := by omega
            have hns : nameS l.kind = [] := by unfold nameS; rw [if_pos (by omega)]
            rw [hns] at p1
            simp [Lt.evB, recheck, wantsOp, AV.same, sames, eqCells, eqLeaf, toL_some, asc, fzero, fnone, List.map_cons, List.map_nil, resVals, resVal, resOf, partV, fillA, putCells, fillEls, strBin, minV, optNat, appendEls, elsOf, sliceSlV, sliceStrV, List.replicate, List.getElem?_append_left, List.getElem?_append_right, List.set_append_left, List.set_append_right, List.getElem?_set_self, List.getElem?_set_ne, fx, f9, ← hlit, xx, get_app xx, set_app xx, get_set_same xx, get_set_app xx, set_set_app xx, len_beq xx, beq_len xx, xx9, get_app xx9, set_app xx9, get_set_same xx9, get_set_app xx9, set_set_app xx9, len_beq xx9, beq_len xx9, g9, get_app g9, set_app g9, get_set_same g9, get_set_app g9, set_set_app g9, len_beq g9, beq_len g9, n0, n17, hNl, p1, p2', hQ']
        · have hns : nameS l.kind = [] := by unfold nameS; rw [if_pos (by omega)]
          rw [hns] at p1
          simp [Lt.evB, recheck, wantsOp, AV.same, sames, eqCells, eqLeaf, toL_some, asc, fzero, fnone, List.map_cons, List.map_nil, resVals, resVal, resOf, partV, fillA, putCells, fillEls, strBin, minV, optNat, appendEls, elsOf, sliceSlV, sliceStrV, List.replicate, List.getElem?_append_left, List.getElem?_append_right, List.set_append_left, List.set_append_right, List.getElem?_set_self, List.getElem?_set_ne, fx, f9, ← hlit, xx, get_app xx, set_app xx, get_set_same xx, get_set_app xx, set_set_app xx, len_beq xx, beq_len xx, xx9, get_app xx9, set_app xx9, get_set_same xx9, get_set_app xx9, set_set_app xx9, len_beq xx9, beq_len xx9, g9, get_app g9, set_app g9, get_set_same g9, get_set_app g9, set_set_app g9, len_beq g9, beq_len g9, n0, hNl, p1, p2', hQ']
  · unfold ltc at e1 e3 e4' e5' e6 e7 e8 e9' e10 e11 gx gm gx1 gm1 gx2 gm2 gx3 gm3 hA hA3
    unfold ltc
    simp [sf3, Lt.evB, recheck, wantsOp, AV.same, sames, eqCells, eqLeaf, toL_some, asc, fzero, fnone, List.map_cons, List.map_nil, resVals, resVal, resOf, partV, fillA, putCells, fillEls, strBin, minV, optNat, appendEls, elsOf, sliceSlV, sliceStrV, List.replicate, List.getElem?_append_left, List.getElem?_append_right, List.set_append_left, List.set_append_right, List.getElem?_set_self, List.getElem?_set_ne, e1, e3, hb, hbi, hQ', ← hA, gx, get_app gx, set_app gx, get_set_same gx, get_set_app gx, set_set_app gx, len_beq gx, beq_len gx, gm, get_app gm, set_app gm, get_set_same gm, get_set_app gm, set_set_app gm, len_beq gm, beq_len gm, e4', gx1, get_app gx1, set_app gx1, get_set_same gx1, get_set_app gx1, set_set_app gx1, len_beq gx1, beq_len gx1, gm1, get_app gm1, set_app gm1, get_set_same gm1, get_set_app gm1, set_set_app gm1, len_beq gm1, beq_len gm1, e5', gx2, get_app gx2, set_app gx2, get_set_same gx2, get_set_app gx2, set_set_app gx2, len_beq gx2, beq_len gx2, gm2, get_app gm2, set_app gm2, get_set_same gm2, get_set_app gm2, set_set_app gm2, len_beq gm2, beq_len gm2, ← hA3, gx3, get_app gx3, set_app gx3, get_set_same gx3, get_set_app gx3, set_set_app gx3, len_beq gx3, beq_len gx3, gm3, get_app gm3, set_app gm3, get_set_same gm3, get_set_app gm3, set_set_app gm3, len_beq gm3, beq_len gm3, e6, e7, e8, e9' rfl, e10, e11, ← hK0, s1.1, s1.2.1, s1.2.2, s2.1, s2.2.1, s2.2.2, t1.1, t1.2.1, t1.2.2, t2.1, t2.2.1, t2.2.2]
    repeat (first | apply yld_endFn | apply yld_seqK | apply yld_blockK | apply yld_regK | apply yld_opsK | apply yld_putK | apply yld_stgK | apply yld_chkK)
    refine yld_rounds (fun m e k' => ∃ f j tg ni, e = toL 181 f ∧ m = 2 - j ∧ j ≤ 2 ∧ f 2 = .ptr k.length 0 0 ∧ f 6 = .str S ∧ f 7 = .bool true ∧ f 9 = .ptr A3.length 0 0 ∧ f 97 = .slice (A3.length + 1) 1 0 2 2 true ∧ f 98 = .int .i64 2 ∧ f 99 = .int .i64 (j : Nat) ∧ Book k' tg A3.length ni ∧
      Stp (fun t => t = 1 ∨ t = 2 ∨ t = 3) A3 k' (fun _ => 0) tg ∧ k'[A3.length + 1]? = some (Blk.row 1 [[AV.str S], [AV.str b]] true true) ∧ tg (A3.length + 1) = 0) (2 - 0) ?_ ?_
    · exact ⟨_, 0, tg0, 0, rfl, rfl, Nat.zero_le _, rfl, rfl, rfl, rfl, rfl, rfl, rfl, bk0, st0, gS0, tS0⟩
    · rintro J R hJ hR m e K ⟨f, j, tg, ni, rfl, rfl, hj, fx, f6, f7, f9, f97, f98, f99, bk, st, gS, tS⟩
      by_cases hjn : j < 2
      · have d0 : decide ((j : Int) < 2) = true := dec_true (by omega)
        have hji : (j : Int) < 2 := by omega
        have hwj : IntKind.i64.wrap ((j : Int) + 1) = ((j + 1 : Nat) : Int) := wrap_i64 (by omega) (by omega)
        obtain ⟨cc, hcc, hcg⟩ : ∃ cc : List UInt8, cc.length ≤ 281474976710656 ∧ [[AV.str S], [AV.str b]][j]? = some [AV.str cc] := by
          rcases (show j = 0 ∨ j = 1 by omega) with rfl | rfl
          · exact ⟨S, hSl, rfl⟩
          · exact ⟨b, by omega, rfl⟩
        have hcg' : [[AV.str S], [AV.str b]][j] = [AV.str cc] := by
          have := List.getElem?_eq_getElem (l := [[AV.str S], [AV.str b]]) (i := j) hjn
          rw [hcg] at this
          exact (Option.some.inj this).symm
        clear hcg
        obtain ⟨c, d, u1, u2, K1, K2, K4, K5, tg', ni', hc, r1, r2, r3, r4, i1, i2, y2, y4, y5, y6, bk', st'⟩ := round bk cc hcc
        have y3 := get_app (k := [Blk.row 21 [d] true true]) y2
        have x5 := (st.trans st').keep k.length _ gx3 (by simp)
        have ixx : IsL K5 (ltc l v1 v2) l := ⟨v1, v2, rfl, RdS.stp0 k1 (st.trans st') (by simp), RdS.stp0 k2 (st.trans st') (by simp), by omega, by omega⟩
        have S5 := st'.keep _ _ gS (by rw [tS]; simp)
        have tS5 : tg' (A3.length + 1) = 0 := (st'.old _ (List.getElem?_eq_some_iff.1 gS).1).trans tS
        have m8 := z_same i1 i2
        have m9 := z_same i1 ixx
        rw [same_iff.2 rfl] at m8
        obtain ⟨x, hx⟩ : ∃ x, x = getS cc := ⟨_, rfl⟩
        have hx0 : cc = S → x.2 = true := fun h => by rw [hx, h]; exact hb0
        have hx1 : cc = S → true = true → x.1 = l := fun h h2 => by rw [hx, h]; exact hb1 h2
        rw [← hx] at hc r1 r2 i1 i2 m9
        obtain ⟨z1, z2, hd, o1, o2, _, _⟩ := i2
        obtain ⟨z3, z4, hd3, o3, o4, _, _⟩ := i1
        have hcu := hd3.symm.trans hc
        have a1 := o1.cells
        have a2 := o2.cells
        have a3 := o3.cells
        have a4 := o4.cells
        have hu : z3 = u1 ∧ z4 = u2 := by
          unfold ltc at hcu
          simp only [List.cons.injEq, true_and, and_true] at hcu
          exact ⟨hcu.1, hcu.2⟩
        obtain ⟨rfl, rfl⟩ := hu
        have fin := fun f (h2 : f 2 = AV.ptr k.length 0 0) (h6 : f 6 = AV.str S) (h7 : f 7 = AV.bool true) (h9 : f 9 = AV.ptr A3.length 0 0) (h97 : f 97 = .slice (A3.length + 1) 1 0 2 2 true) (h98 : f 98 = AV.int .i64 2) (h99 : f 99 = .int .i64 ((j + 1 : Nat) : Int)) => hJ (2 - (j + 1)) (toL 181 f) K5 ⟨f, j + 1, tg', ni', rfl, rfl, hjn, h2, h6, h7, h9, h97, h98, h99, bk', st.trans st', S5, tS5⟩
        clear hJ o1 o2 o3 o4 hd3 hcu hx ixx bk' bk st'
        subst hc
        subst hd
        by_cases hce : cc = S
        · have h2 := hx0 hce
          have hce' : (cc == S) = true := by simpa using hce
          subst hce
          rw [h2] at r1 r2
          have h3 := hx1 rfl rfl
          have h4 : same x.1 l = true := by rw [h3]; exact same_iff.2 rfl
          rw [h4] at m9
          unfold ltc at *
          simp [Lt.evB, recheck, wantsOp, AV.same, sames, eqCells, eqLeaf, toL_some, asc, fzero, fnone, List.map_cons, List.map_nil, resVals, resVal, resOf, partV, fillA, putCells, fillEls, strBin, minV, optNat, appendEls, elsOf, sliceSlV, sliceStrV, List.replicate, List.getElem?_append_left, List.getElem?_append_right, List.set_append_left, List.set_append_right, List.getElem?_set_self, List.getElem?_set_ne, fx, f6, f7, f9, f97, f98, f99, d0, hji, hjn, hwj, gS, get_app gS, set_app gS, get_set_same gS, get_set_app gS, set_set_app gS, len_beq gS, beq_len gS, hcg', r1, r2, y2, get_app y2, set_app y2, get_set_same y2, get_set_app y2, set_set_app y2, len_beq y2, beq_len y2, y3, get_app y3, set_app y3, get_set_same y3, get_set_app y3, set_set_app y3, len_beq y3, beq_len y3, r3, y4, get_app y4, set_app y4, get_set_same y4, get_set_app y4, set_set_app y4, len_beq y4, beq_len y4, r4, y5, get_app y5, set_app y5, get_set_same y5, get_set_app y5, set_set_app y5, len_beq y5, beq_len y5, y6, get_app y6, set_app y6, get_set_same y6, get_set_app y6, set_set_app y6, len_beq y6, beq_len y6, x5, get_app x5, set_app x5, get_set_same x5, get_set_app x5, set_set_app x5, len_beq x5, beq_len x5, m8, m9, hce', s1.1, s1.2.1, s1.2.2, s2.1, s2.2.1, s2.2.2, a1.1, a1.2.1, a1.2.2, a2.1, a2.2.1, a2.2.2, a3.1, a3.2.1, a3.2.2, a4.1, a4.2.1, a4.2.2]
          exact ⟨2 - (j + 1), by omega, fin _ rfl rfl rfl rfl rfl rfl rfl⟩
        · have hce' : (cc == S) = false := by simpa using hce
          cases h2 : x.2 <;> rw [h2] at r1 r2 <;> (
          unfold ltc at *
          simp [Lt.evB, recheck, wantsOp, AV.same, sames, eqCells, eqLeaf, toL_some, asc, fzero, fnone, List.map_cons, List.map_nil, resVals, resVal, resOf, partV, fillA, putCells, fillEls, strBin, minV, optNat, appendEls, elsOf, sliceSlV, sliceStrV, List.replicate, List.getElem?_append_left, List.getElem?_append_right, List.set_append_left, List.set_append_right, List.getElem?_set_self, List.getElem?_set_ne, fx, f6, f7, f9, f97, f98, f99, d0, hji, hjn, hwj, gS, get_app gS, set_app gS, get_set_same gS, get_set_app gS, set_set_app gS, len_beq gS, beq_len gS, hcg', r1, r2, y2, get_app y2, set_app y2, get_set_same y2, get_set_app y2, set_set_app y2, len_beq y2, beq_len y2, y3, get_app y3, set_app y3, get_set_same y3, get_set_app y3, set_set_app y3, len_beq y3, beq_len y3, r3, y4, get_app y4, set_app y4, get_set_same y4, get_set_app y4, set_set_app y4, len_beq y4, beq_len y4, r4, y5, get_app y5, set_app y5, get_set_same y5, get_set_app y5, set_set_app y5, len_beq y5, beq_len y5, y6, get_app y6, set_app y6, get_set_same y6, get_set_app y6, set_set_app y6, len_beq y6, beq_len y6, x5, get_app x5, set_app x5, get_set_same x5, get_set_app x5, set_set_app x5, len_beq x5, beq_len x5, m8, m9, hce, hce', s1.1, s1.2.1, s1.2.2, s2.1, s2.2.1, s2.2.2, a1.1, a1.2.1, a1.2.2, a2.1, a2.2.1, a2.2.2, a3.1, a3.2.1, a3.2.2, a4.1, a4.2.1, a4.2.2]
          exact ⟨2 - (j + 1), by omega, fin _ rfl rfl rfl rfl rfl rfl rfl⟩)
      · have hj2 : j = 2 := by omega
        subst hj2
        simp [Lt.evB, recheck, wantsOp, AV.same, sames, eqCells, eqLeaf, toL_some, asc, fzero, fnone, List.map_cons, List.map_nil, resVals, resVal, resOf, partV, fillA, putCells, fillEls, strBin, minV, optNat, appendEls, elsOf, sliceSlV, sliceStrV, List.replicate, List.getElem?_append_left, List.getElem?_append_right, List.set_append_left, List.set_append_right, List.getElem?_set_self, List.getElem?_set_ne, fx, f6, f7, f9, f97, f98, f99]
        refine hR _ ?_
        have xx := st.keep k.length _ gx3 (by simp)
        obtain ⟨NL, hNL⟩ : ∃ n, n = namesL := ⟨_, rfl⟩
        have hNl : NL.length = 17 := by rw [hNL]; rfl
        obtain ⟨K9, hK9⟩ : ∃ K9, K9 = K ++ [Blk.row 1 NL true true] := ⟨_, rfl⟩
        have g9 : K9[K.length]? = some (Blk.row 1 NL true true) := by rw [hK9]; simp
        have xx9 : K9[k.length]? = some (Blk.row 21 [ltc l v1 v2] true true) := by rw [hK9]; exact get_app xx
        have p1 := z_Name l.kind K9
        have bk9 : Book K9 tg A3.length ni := bk.stp (T := fun _ => False) (by rw [hK9]; exact Stp.of (F := []) (Chg.app _ _ _) (by simp) (fun _ _ => rfl)) (fun _ h => h.elim)
        obtain ⟨⟨_, Kz⟩, p2, hv⟩ := bk9.apart
        simp only at hv
        subst hv
        have p2' := (eZ_Apart _ _).trans p2
        have hlit := hK9
        rw [hNL] at hlit
        unfold namesL at hlit
        unfold ltc at xx xx9
        by_cases n0 : 0 ≤ l.kind
        · by_cases n17 : l.kind < 17
          · obtain ⟨n, hn⟩ : ∃ n : Nat, l.kind = n := ⟨l.kind.toNat, by omega⟩
            have hn17 : n < 17 := by omega
            have hni : (n : Int) < 17 := by omega
            have hNn : NL[n]? = some [.str (nameS (n : Nat))] := by rw [hNL]; exact namesL_at n hn17
            have hNg : NL[n]'(by omega) = [.str (nameS (n : Nat))] := by
              have := List.getElem?_eq_getElem (l := NL) (i := n) (by omega)
              rw [hNn] at this
              exact (Option.some.inj this).symm
            have hnl : n < NL.length := by omega
            rw [hn] at p1 xx xx9
            generalize nameS (n : Nat) = NS at *
            simp [Lt.evB, recheck, wantsOp, AV.same, sames, eqCells, eqLeaf, toL_some, asc, fzero, fnone, List.map_cons, List.map_nil, resVals, resVal, resOf, partV, fillA, putCells, fillEls, strBin, minV, optNat, appendEls, elsOf, sliceSlV, sliceStrV, List.replicate, List.getElem?_append_left, List.getElem?_append_right, List.set_append_left, List.set_append_right, List.getElem?_set_self, List.getElem?_set_ne, fx, f9, ← hlit, xx, get_app xx, set_app xx, get_set_same xx, get_set_app xx, set_set_app xx, len_beq xx, beq_len xx, xx9, get_app xx9, set_app xx9, get_set_same xx9, get_set_app xx9, set_set_app xx9, len_beq xx9, beq_len xx9, g9, get_app g9, set_app g9, get_set_same g9, get_set_app g9, set_set_app g9, len_beq g9, beq_len g9, hn17, hni, hnl, hNl, hNn, hNg, p1, p2', hQ']
          · have hn17 : 17 ≤ l.kind := by omega
            have hns : nameS l.kind = [] := by unfold nameS; rw [if_pos (by omega)]
            rw [hns] at p1
            simp [Lt.evB, recheck, wantsOp, AV.same, sames, eqCells, eqLeaf, toL_some, asc, fzero, fnone, List.map_cons, List.map_nil, resVals, resVal, resOf, partV, fillA, putCells, fillEls, strBin, minV, optNat, appendEls, elsOf, sliceSlV, sliceStrV, List.replicate, List.getElem?_append_left, List.getElem?_append_right, List.set_append_left, List.set_append_right, List.getElem?_set_self, List.getElem?_set_ne, fx, f9, ← hlit, xx, get_app xx, set_app xx, get_set_same xx, get_set_app xx, set_set_app xx, len_beq xx, beq_len xx, xx9, get_app xx9, set_app xx9, get_set_same xx9, get_set_app xx9, set_set_app xx9, len_beq xx9, beq_len xx9, g9, get_app g9, set_app g9, get_set_same g9, get_set_app g9, set_set_app g9, len_beq g9, beq_len g9, n0, n17, hNl, p1, p2', hQ']
        · have hns : nameS l.kind = [] := by unfold nameS; rw [if_pos (by omega)]
          rw [hns] at p1
          simp [Lt.evB, recheck, wantsOp, AV.same, sames, eqCells, eqLeaf, toL_some, asc, fzero, fnone, List.map_cons, List.map_nil, resVals, resVal, resOf, partV, fillA, putCells, fillEls, strBin, minV, optNat, appendEls, elsOf, sliceSlV, sliceStrV, List.replicate, List.getElem?_append_left, List.getElem?_append_right, List.set_append_left, List.set_append_right, List.getElem?_set_self, List.getElem?_set_ne, fx, f9, ← hlit, xx, get_app xx, set_app xx, get_set_same xx, get_set_app xx, set_set_app xx, len_beq xx, beq_len xx, xx9, get_app xx9, set_app xx9, get_set_same xx9, get_set_app xx9, set_set_app xx9, len_beq xx9, beq_len xx9, g9, get_app g9, set_app g9, get_set_same g9, get_set_app g9, set_set_app g9, len_beq g9, beq_len g9, n0, hNl, p1, p2', hQ']
end Go.Proofs.YtgnenipkebelfaaGreatDoor.Lz
namespace Go.Proofs.YtgnenipkebelfaaGreatDoor.Pure
open Go Go.Eng Lt
theorem LetterTells : LawOk Tryz.prog 3 F.ss3 := by
  refine ⟨Lz.fsZ, Lz.exZ, Lz.fsZ_ok, Lz.exZ_ok, fun vs h _ hv => ?_⟩
  have hs : F.ss3 = [.st shL, .str] := rfl
  rw [hs] at hv
  simp only [HasVs, HasV] at hv
  obtain ⟨_, _, rfl, ⟨c, rfl, h1⟩, _, _, rfl, h2, rfl⟩ := hv
  simp only [Has] at h2
  obtain ⟨b, e2, _⟩ := h2
  cases e2
  obtain ⟨l, hl, wl⟩ := has_letter h1
  exact Lz.tells_law hl wl b
end Go.Proofs.YtgnenipkebelfaaGreatDoor.Pure
