-- Printed by this session's program wip/lprint.py (a changed copy of the kit's print), out of the translation. Not trusted: Lean checks it.
import Derived.Test.YtnfdgbapionojaaPx0
import Derived.Test.YtnfdgbapionojaaPx1
import Derived.Test.YtnfdgbapionojaaPx3
namespace Go.Proofs.Ytnfdgbapionojaa.P
open Go.RowKit Go.Proofs.YtnfdgbapionojaaW.PrintWords Go.Proofs.YtnfdgbapionojaaW.PrintLast Go.Proofs.YtnfdgbapionojaaW.PrintMore
attribute [local go_sem] max2_int min2_int max_two min_two max_three min_three max_four min_four   -- for this text's walks alone
set_option linter.unusedVariables false
set_option linter.unusedSimpArgs false

/-! ### rosarylaw3_PackNums: function 6 -/
def rosarylaw3_PackNums.j0 : Nat → Int → Int → Int → Bool → Bool → Option (Bool)
  | 0, _, _, _, _, _ => none
  | k + 1, x0, x2, x3, x10, x44 => if x44 = true then (some false) else ((pack_Wide.f k x2).bind fun t331 => ((pack_Wide.f k x3).bind fun t332 => (if (t331.size : Int) = 8 then (if ((Op.bytesLess t331.toList t332.toList) == (decide (x2 < x3))) = true then (if ((t331.toList == t332.toList) == (x2 == x3)) = true then (if x0 ≥ 0 then (some (x10 == (decide (x0 ≤ 65535)))) else (some (x10 == false))) else (some false)) else (some false)) else (some false))))
def rosarylaw3_PackNums.f (k : Nat) (a0 : Int) (a1 : Int) (a2 : Int) (a3 : Int) : Option (Bool) := (pack_Num.f k a0).bind fun bt326 => ((pack_Num.f k a1).bind fun bt328 => ((rosarylaw3_alive.f k).bind fun t330 => (if t330 = true then (if bt326.2 = true then (if bt328.2 = true then (if (bt326.1.size : Int) = 2 then (rosarylaw3_PackNums.j0 k a0 a2 a3 bt326.2 ((Op.bytesLess bt326.1.toList bt328.1.toList) != (decide (a0 < a1)))) else (rosarylaw3_PackNums.j0 k a0 a2 a3 bt326.2 true)) else (rosarylaw3_PackNums.j0 k a0 a2 a3 bt326.2 false)) else (rosarylaw3_PackNums.j0 k a0 a2 a3 bt326.2 false)) else (some false))))
theorem rosarylaw3_PackNums.mono_l : ∀ k, (∀ y0 y1 y2 y3 y4, LeO (rosarylaw3_PackNums.j0 k y0 y1 y2 y3 y4) (rosarylaw3_PackNums.j0 (k + 1) y0 y1 y2 y3 y4))
  | 0 => fun _ _ _ _ _ r h => by simp [rosarylaw3_PackNums.j0] at h
  | k + 1 => by
    have ih0 := rosarylaw3_PackNums.mono_l k
    · intro y0 y1 y2 y3 y4
      unfold rosarylaw3_PackNums.j0
      repeat' first
      | (with_reducible exact ih0 _ _ _ _ _)
      | (with_reducible exact pack_Num.mono _ _)
      | (with_reducible exact pack_Wide.mono _ _)
      | (with_reducible exact rosarylaw3_alive.mono _)
      | (with_reducible exact LeO.refl _)
      | (with_reducible exact LeO.none _)
      | (with_reducible refine LeO.ite ?_ ?_)
      | (with_reducible refine LeO.bind ?_ (fun _ => ?_))
      | exact ih0 _ _ _ _ _
      | exact pack_Num.mono _ _
      | exact pack_Wide.mono _ _
      | exact rosarylaw3_alive.mono _
      | exact LeO.none _
      | refine LeO.ite ?_ ?_
      | refine LeO.bind ?_ (fun _ => ?_)
theorem rosarylaw3_PackNums.mono : ∀ a0 a1 a2 a3 k, LeO (rosarylaw3_PackNums.f k a0 a1 a2 a3) (rosarylaw3_PackNums.f (k + 1) a0 a1 a2 a3) := by
  intro a0 a1 a2 a3 k
  have ih0 := rosarylaw3_PackNums.mono_l k
  unfold rosarylaw3_PackNums.f
  repeat' first
      | (with_reducible exact ih0 _ _ _ _ _)
      | (with_reducible exact pack_Num.mono _ _)
      | (with_reducible exact pack_Wide.mono _ _)
      | (with_reducible exact rosarylaw3_alive.mono _)
      | (with_reducible exact LeO.refl _)
      | (with_reducible exact LeO.none _)
      | (with_reducible refine LeO.ite ?_ ?_)
      | (with_reducible refine LeO.bind ?_ (fun _ => ?_))
      | exact ih0 _ _ _ _ _
      | exact pack_Num.mono _ _
      | exact pack_Wide.mono _ _
      | exact rosarylaw3_alive.mono _
      | exact LeO.none _
      | refine LeO.ite ?_ ?_
      | refine LeO.bind ?_ (fun _ => ?_)
set_option maxHeartbeats 8000000 in
set_option maxRecDepth 100000 in
theorem rosarylaw3_PackNums.calls (k : Nat) (a0 : Int) (a1 : Int) (a2 : Int) (a3 : Int) (r : Bool) (w : World) (h : rosarylaw3_PackNums.f k a0 a1 a2 a3 = some r) :
    Calls Try.prog 6 #[.int .i64 a0, .int .i64 a1, .int .u64 a2, .int .u64 a3] w fun e w' => e = .returned (.bool r) ∧ Below w.heap.size w w' := by
  have HB := Aside0.mk (Below.refl w.heap.size w)
  have H : ((pack_Num.f k a0).bind fun bt326 => ((pack_Num.f k a1).bind fun bt328 => ((rosarylaw3_alive.f k).bind fun t330 => (if t330 = true then (if bt326.2 = true then (if bt328.2 = true then (if (bt326.1.size : Int) = 2 then (rosarylaw3_PackNums.j0 k a0 a2 a3 bt326.2 ((Op.bytesLess bt326.1.toList bt328.1.toList) != (decide (a0 < a1)))) else (rosarylaw3_PackNums.j0 k a0 a2 a3 bt326.2 true)) else (rosarylaw3_PackNums.j0 k a0 a2 a3 bt326.2 false)) else (rosarylaw3_PackNums.j0 k a0 a2 a3 bt326.2 false)) else (some false))))) = some r := h
  clear h
  replace H := Option.bind_eq_some_iff.mp H
  obtain ⟨⟨t326, t327⟩, A50, H⟩ := H
  replace H : ((pack_Num.f k a1).bind fun bt328 => ((rosarylaw3_alive.f k).bind fun t330 => (if t330 = true then (if t327 = true then (if bt328.2 = true then (if (t326.size : Int) = 2 then (rosarylaw3_PackNums.j0 k a0 a2 a3 t327 ((Op.bytesLess t326.toList bt328.1.toList) != (decide (a0 < a1)))) else (rosarylaw3_PackNums.j0 k a0 a2 a3 t327 true)) else (rosarylaw3_PackNums.j0 k a0 a2 a3 t327 false)) else (rosarylaw3_PackNums.j0 k a0 a2 a3 t327 false)) else (some false)))) = some r := H
  have A5 := Aside0.mk A50
  clear A50
  replace H := Option.bind_eq_some_iff.mp H
  obtain ⟨⟨t328, t329⟩, A60, H⟩ := H
  replace H : ((rosarylaw3_alive.f k).bind fun t330 => (if t330 = true then (if t327 = true then (if t329 = true then (if (t326.size : Int) = 2 then (rosarylaw3_PackNums.j0 k a0 a2 a3 t327 ((Op.bytesLess t326.toList t328.toList) != (decide (a0 < a1)))) else (rosarylaw3_PackNums.j0 k a0 a2 a3 t327 true)) else (rosarylaw3_PackNums.j0 k a0 a2 a3 t327 false)) else (rosarylaw3_PackNums.j0 k a0 a2 a3 t327 false)) else (some false))) = some r := H
  have A6 := Aside0.mk A60
  clear A60
  replace H := Option.bind_eq_some_iff.mp H
  obtain ⟨t330, A70, H⟩ := H
  replace H : (if t330 = true then (if t327 = true then (if t329 = true then (if (t326.size : Int) = 2 then (rosarylaw3_PackNums.j0 k a0 a2 a3 t327 ((Op.bytesLess t326.toList t328.toList) != (decide (a0 < a1)))) else (rosarylaw3_PackNums.j0 k a0 a2 a3 t327 true)) else (rosarylaw3_PackNums.j0 k a0 a2 a3 t327 false)) else (rosarylaw3_PackNums.j0 k a0 a2 a3 t327 false)) else (some false)) = some r := H
  have A7 := Aside0.mk A70
  clear A70
  by_cases c8 : t330 = true
  · subst c8
    have H1 : (if t327 = true then (if t329 = true then (if (t326.size : Int) = 2 then (rosarylaw3_PackNums.j0 k a0 a2 a3 t327 ((Op.bytesLess t326.toList t328.toList) != (decide (a0 < a1)))) else (rosarylaw3_PackNums.j0 k a0 a2 a3 t327 true)) else (rosarylaw3_PackNums.j0 k a0 a2 a3 t327 false)) else (rosarylaw3_PackNums.j0 k a0 a2 a3 t327 false)) = some r := by rw [if_pos rfl] at H; exact H
    clear H
    have H := H1
    clear H1
    have HC9 := Aside0.mk H
    clear H
    go_enter Try.func6, Try.ntmps6
    go_upto_region 5 with (first | ((with_reducible refine gate_callee (f := 10) rfl ?_); refine goesL_ (some 17) rfl rfl Try.func10 (by kernel_rfl) rfl #[.int .i64 a0] rfl (by (try simp only [List.map_toArray, List.map_cons, List.map_nil]); first | done | rfl | (simp only [List.length_drop, List.length_take]; rfl) | (rw [IntWalk.u64_in _ ⟨by omega, by omega⟩]; rfl)) ?_; (with_reducible refine (pack_Num.calls k a0 t326 t327 _ A5.out).mono ?_); rintro e w10 ⟨rfl, hb⟩; refine ⟨_, rfl, ?_⟩; have n0_ := Aside0.mk (below_step (by repeat (first | (with_reducible first | exact HB.out | apply below_alloc | apply pw_below_drewN | apply below_drew1) | exact HB.out)) hb); clear HB; have HB := n0_; clear n0_; (try clear hb); (try clear hb2); (try clear hk); (try clear hi)) | ((with_reducible refine gate_callee (f := 10) rfl ?_); refine goesL_ (some 22) rfl rfl Try.func10 (by kernel_rfl) rfl #[.int .i64 a1] rfl (by (try simp only [List.map_toArray, List.map_cons, List.map_nil]); first | done | rfl | (simp only [List.length_drop, List.length_take]; rfl) | (rw [IntWalk.u64_in _ ⟨by omega, by omega⟩]; rfl)) ?_; (with_reducible refine (pack_Num.calls k a1 t328 t329 _ A6.out).mono ?_); rintro e w11 ⟨rfl, hb⟩; refine ⟨_, rfl, ?_⟩; have n0_ := Aside0.mk (below_step (by repeat (first | (with_reducible first | exact HB.out | apply below_alloc | apply pw_below_drewN | apply below_drew1) | exact HB.out)) hb); clear HB; have HB := n0_; clear n0_; (try clear hb); (try clear hb2); (try clear hk); (try clear hi)) | ((with_reducible refine gate_callee (f := 9) rfl ?_); refine goesL_ (some 25) rfl rfl Try.func9 (by kernel_rfl) rfl #[] rfl (by (try simp only [List.map_toArray, List.map_cons, List.map_nil]); first | done | rfl | (simp only [List.length_drop, List.length_take]; rfl) | (rw [IntWalk.u64_in _ ⟨by omega, by omega⟩]; rfl)) ?_; (with_reducible refine (rosarylaw3_alive.calls k  true _ A7.out).mono ?_); rintro e w12 ⟨rfl, hb⟩; refine ⟨_, rfl, ?_⟩; have n0_ := Aside0.mk (below_step (by repeat (first | (with_reducible first | exact HB.out | apply below_alloc | apply pw_below_drewN | apply below_drew1) | exact HB.out)) hb); clear HB; have HB := n0_; clear n0_; (try clear hb); (try clear hb2); (try clear hk); (try clear hi)))
    (try simp only [Act.put, List.setIfInBounds_toArray, List.set_cons_zero, List.set_cons_succ])
    go_cut [44] (fun v44 wc => ∃ (kq : Nat) (x44_8 : Bool), v44 = .bool x44_8 ∧ Aside0 (rosarylaw3_PackNums.j0 kq a0 a2 a3 t327 x44_8 = some r) ∧ Aside0 (kq ≤ k) ∧ Aside0 (Below w.heap.size w wc))
    case first =>
      have H := HC9.out
      clear HC9
      by_cases c13 : t327 = true
      · subst c13
        have H1 : (if t329 = true then (if (t326.size : Int) = 2 then (rosarylaw3_PackNums.j0 k a0 a2 a3 true ((Op.bytesLess t326.toList t328.toList) != (decide (a0 < a1)))) else (rosarylaw3_PackNums.j0 k a0 a2 a3 true true)) else (rosarylaw3_PackNums.j0 k a0 a2 a3 true false)) = some r := by rw [if_pos rfl] at H; exact H
        clear H
        have H := H1
        clear H1
        by_cases c14 : t329 = true
        · subst c14
          have H1 : (if (t326.size : Int) = 2 then (rosarylaw3_PackNums.j0 k a0 a2 a3 true ((Op.bytesLess t326.toList t328.toList) != (decide (a0 < a1)))) else (rosarylaw3_PackNums.j0 k a0 a2 a3 true true)) = some r := by rw [if_pos rfl] at H; exact H
          clear H
          have H := H1
          clear H1
          by_cases c15 : (t326.size : Int) = 2
          · rw [if_pos c15] at H
            have c15b0 : ((t326.size : Int) == 2) = true := beq_iff_eq.mpr c15
            have c15b1 : ((t326.size : Int) != 2) = false := bne_eq_false_iff_eq.mpr c15
            clear c15
            (first | rw [c15b0] | (simp only [i64_w, i32_w]; rw [c15b0]) | skip)
            have H' := Aside0.mk H
            clear H
            go_wp2
            go_meet
            case rel => exact ⟨_, (((Op.bytesLess t326.toList t328.toList) != (decide (a0 < a1)))), (by first | rfl | (simp; done) | (simp [*]; done)), H', ⟨by first | omega | exact Nat.le_refl _⟩, ⟨by repeat (first | (with_reducible first | exact HB.out | apply below_alloc | apply pw_below_drewN | apply below_drew1) | exact HB.out)⟩⟩
          · rw [if_neg c15] at H
            have c15b0 : ((t326.size : Int) == 2) = false := beq_eq_false_iff_ne.mpr c15
            have c15b1 : ((t326.size : Int) != 2) = true := bne_iff_ne.mpr c15
            (first | rw [c15b0] | (simp only [i64_w, i32_w]; rw [c15b0]) | skip)
            have H' := Aside0.mk H
            clear H
            go_wp2
            go_meet
            case rel => exact ⟨_, (true), (by first | rfl | (simp; done) | (simp [*]; done)), H', ⟨by first | omega | exact Nat.le_refl _⟩, ⟨by repeat (first | (with_reducible first | exact HB.out | apply below_alloc | apply pw_below_drewN | apply below_drew1) | exact HB.out)⟩⟩
        · replace c14 := Bool.eq_false_iff.mpr c14
          subst c14
          have H1 : (rosarylaw3_PackNums.j0 k a0 a2 a3 true false) = some r := by rw [if_neg (show ¬ (false = true) by decide)] at H; exact H
          clear H
          have H := H1
          clear H1
          have H' := Aside0.mk H
          clear H
          go_wp2
          go_meet
          case rel => exact ⟨_, (false), (by first | rfl | (simp; done) | (simp [*]; done)), H', ⟨by first | omega | exact Nat.le_refl _⟩, ⟨by repeat (first | (with_reducible first | exact HB.out | apply below_alloc | apply pw_below_drewN | apply below_drew1) | exact HB.out)⟩⟩
      · replace c13 := Bool.eq_false_iff.mpr c13
        subst c13
        have H1 : (rosarylaw3_PackNums.j0 k a0 a2 a3 false false) = some r := by rw [if_neg (show ¬ (false = true) by decide)] at H; exact H
        clear H
        have H := H1
        clear H1
        have H' := Aside0.mk H
        clear H
        go_wp2
        go_meet
        case rel => exact ⟨_, (false), (by first | rfl | (simp; done) | (simp [*]; done)), H', ⟨by first | omega | exact Nat.le_refl _⟩, ⟨by repeat (first | (with_reducible first | exact HB.out | apply below_alloc | apply pw_below_drewN | apply below_drew1) | exact HB.out)⟩⟩
    case rest =>
      clear HC9
      try clear c1
      try clear p2
      try clear c6
      try clear c8
      try clear c9
      try clear c10
      try clear c13
      try clear c14
      try clear c15
      try clear c15b0
      try clear c15b1
      obtain ⟨kq, x44_8, rfl, HA, HJ8, HB⟩ := hcut
      cases kq with
      | zero => exact absurd HA.out (by simp [rosarylaw3_PackNums.j0])
      | succ kj8 =>
        have H := HA.out
        clear HA
        simp only [rosarylaw3_PackNums.j0] at H
        by_cases c16 : x44_8 = true
        · subst c16
          have H1 : (some false) = some r := by rw [if_pos rfl] at H; exact H
          clear H
          have H := H1
          clear H1
          obtain rfl := Option.some.inj H
          go_wp2
          go_ret
          exact ⟨by first | rfl | (simp [errW_none, errW_some] <;> rfl) | (simp [*, errW_none, errW_some] <;> rfl), by repeat (first | (with_reducible first | exact HB.out | apply below_alloc | apply pw_below_drewN | apply below_drew1) | exact HB.out)⟩
        · replace c16 := Bool.eq_false_iff.mpr c16
          subst c16
          have H1 : ((pack_Wide.f kj8 a2).bind fun t331 => ((pack_Wide.f kj8 a3).bind fun t332 => (if (t331.size : Int) = 8 then (if ((Op.bytesLess t331.toList t332.toList) == (decide (a2 < a3))) = true then (if ((t331.toList == t332.toList) == (a2 == a3)) = true then (if a0 ≥ 0 then (some (t327 == (decide (a0 ≤ 65535)))) else (some (t327 == false))) else (some false)) else (some false)) else (some false)))) = some r := by rw [if_neg (show ¬ (false = true) by decide)] at H; exact H
          clear H
          have H := H1
          clear H1
          replace H := Option.bind_eq_some_iff.mp H
          obtain ⟨t331, A170, H⟩ := H
          replace H : ((pack_Wide.f kj8 a3).bind fun t332 => (if (t331.size : Int) = 8 then (if ((Op.bytesLess t331.toList t332.toList) == (decide (a2 < a3))) = true then (if ((t331.toList == t332.toList) == (a2 == a3)) = true then (if a0 ≥ 0 then (some (t327 == (decide (a0 ≤ 65535)))) else (some (t327 == false))) else (some false)) else (some false)) else (some false))) = some r := H
          have A17 := Aside0.mk A170
          clear A170
          replace H := Option.bind_eq_some_iff.mp H
          obtain ⟨t332, A180, H⟩ := H
          replace H : (if (t331.size : Int) = 8 then (if ((Op.bytesLess t331.toList t332.toList) == (decide (a2 < a3))) = true then (if ((t331.toList == t332.toList) == (a2 == a3)) = true then (if a0 ≥ 0 then (some (t327 == (decide (a0 ≤ 65535)))) else (some (t327 == false))) else (some false)) else (some false)) else (some false)) = some r := H
          have A18 := Aside0.mk A180
          clear A180
          by_cases c19 : (t331.size : Int) = 8
          · rw [if_pos c19] at H
            have c19b0 : ((t331.size : Int) == 8) = true := beq_iff_eq.mpr c19
            have c19b1 : ((t331.size : Int) != 8) = false := bne_eq_false_iff_eq.mpr c19
            clear c19
            by_cases c20 : ((Op.bytesLess t331.toList t332.toList) == (decide (a2 < a3))) = true
            · rw [if_pos c20] at H
              have c20b0 : ((Op.bytesLess t331.toList t332.toList) == (decide (a2 < a3))) = true := c20
              (try (have c20b1 : decide ((Op.bytesLess t331.toList t332.toList) = (decide (a2 < a3))) = true := by simpa using c20))
              (try (have c20b2 : ((Op.bytesLess t331.toList t332.toList) == (decide (a2 < a3))) = true := by simpa using c20))
              clear c20
              by_cases c21 : ((t331.toList == t332.toList) == (a2 == a3)) = true
              · rw [if_pos c21] at H
                have c21b0 : ((t331.toList == t332.toList) == (a2 == a3)) = true := c21
                (try (have c21b1 : decide ((t331.toList == t332.toList) = (a2 == a3)) = true := by simpa using c21))
                (try (have c21b2 : ((t331.toList == t332.toList) == (a2 == a3)) = true := by simpa using c21))
                clear c21
                by_cases c22 : a0 ≥ 0
                · rw [if_pos c22] at H
                  have c22b0 : decide (0 ≤ a0) = true := decide_eq_true c22
                  clear c22
                  obtain rfl := Option.some.inj H
                  go_wp2_with (first | ((with_reducible refine gate_callee (f := 14) rfl ?_); refine goesL_ (some 46) rfl rfl Try.func14 (by kernel_rfl) rfl #[.int .u64 a2] rfl (by (try simp only [List.map_toArray, List.map_cons, List.map_nil]); first | done | rfl | (simp only [List.length_drop, List.length_take]; rfl) | (rw [IntWalk.u64_in _ ⟨by omega, by omega⟩]; rfl)) ?_; (with_reducible refine (pack_Wide.calls kj8 a2 t331 _ A17.out).mono ?_); rintro e w23 ⟨rfl, hb⟩; refine ⟨_, rfl, ?_⟩; have n0_ := Aside0.mk (below_step (by repeat (first | (with_reducible first | exact HB.out | apply below_alloc | apply pw_below_drewN | apply below_drew1) | exact HB.out)) hb); clear HB; have HB := n0_; clear n0_; (try clear hb); (try clear hb2); (try clear hk); (try clear hi)) | ((with_reducible refine gate_callee (f := 14) rfl ?_); refine goesL_ (some 48) rfl rfl Try.func14 (by kernel_rfl) rfl #[.int .u64 a3] rfl (by (try simp only [List.map_toArray, List.map_cons, List.map_nil]); first | done | rfl | (simp only [List.length_drop, List.length_take]; rfl) | (rw [IntWalk.u64_in _ ⟨by omega, by omega⟩]; rfl)) ?_; (with_reducible refine (pack_Wide.calls kj8 a3 t332 _ A18.out).mono ?_); rintro e w24 ⟨rfl, hb⟩; refine ⟨_, rfl, ?_⟩; have n0_ := Aside0.mk (below_step (by repeat (first | (with_reducible first | exact HB.out | apply below_alloc | apply pw_below_drewN | apply below_drew1) | exact HB.out)) hb); clear HB; have HB := n0_; clear n0_; (try clear hb); (try clear hb2); (try clear hk); (try clear hi)))
                  go_ret
                  exact ⟨by first | rfl | (simp [errW_none, errW_some] <;> rfl) | (simp [*, errW_none, errW_some] <;> rfl), by repeat (first | (with_reducible first | exact HB.out | apply below_alloc | apply pw_below_drewN | apply below_drew1) | exact HB.out)⟩
                · rw [if_neg c22] at H
                  have c22b0 : decide (0 ≤ a0) = false := decide_eq_false c22
                  clear c22
                  obtain rfl := Option.some.inj H
                  go_wp2_with (first | ((with_reducible refine gate_callee (f := 14) rfl ?_); refine goesL_ (some 46) rfl rfl Try.func14 (by kernel_rfl) rfl #[.int .u64 a2] rfl (by (try simp only [List.map_toArray, List.map_cons, List.map_nil]); first | done | rfl | (simp only [List.length_drop, List.length_take]; rfl) | (rw [IntWalk.u64_in _ ⟨by omega, by omega⟩]; rfl)) ?_; (with_reducible refine (pack_Wide.calls kj8 a2 t331 _ A17.out).mono ?_); rintro e w25 ⟨rfl, hb⟩; refine ⟨_, rfl, ?_⟩; have n0_ := Aside0.mk (below_step (by repeat (first | (with_reducible first | exact HB.out | apply below_alloc | apply pw_below_drewN | apply below_drew1) | exact HB.out)) hb); clear HB; have HB := n0_; clear n0_; (try clear hb); (try clear hb2); (try clear hk); (try clear hi)) | ((with_reducible refine gate_callee (f := 14) rfl ?_); refine goesL_ (some 48) rfl rfl Try.func14 (by kernel_rfl) rfl #[.int .u64 a3] rfl (by (try simp only [List.map_toArray, List.map_cons, List.map_nil]); first | done | rfl | (simp only [List.length_drop, List.length_take]; rfl) | (rw [IntWalk.u64_in _ ⟨by omega, by omega⟩]; rfl)) ?_; (with_reducible refine (pack_Wide.calls kj8 a3 t332 _ A18.out).mono ?_); rintro e w26 ⟨rfl, hb⟩; refine ⟨_, rfl, ?_⟩; have n0_ := Aside0.mk (below_step (by repeat (first | (with_reducible first | exact HB.out | apply below_alloc | apply pw_below_drewN | apply below_drew1) | exact HB.out)) hb); clear HB; have HB := n0_; clear n0_; (try clear hb); (try clear hb2); (try clear hk); (try clear hi)))
                  go_ret
                  exact ⟨by first | rfl | (simp [errW_none, errW_some] <;> rfl) | (simp [*, errW_none, errW_some] <;> rfl), by repeat (first | (with_reducible first | exact HB.out | apply below_alloc | apply pw_below_drewN | apply below_drew1) | exact HB.out)⟩
              · rw [if_neg c21] at H
                have c21b0 : ((t331.toList == t332.toList) == (a2 == a3)) = false := by simpa using c21
                (try (have c21b1 : decide ((t331.toList == t332.toList) = (a2 == a3)) = false := by simpa using c21))
                (try (have c21b2 : ((t331.toList == t332.toList) == (a2 == a3)) = false := by simpa using c21))
                (try (have c21b3 : ¬ ((t331.toList == t332.toList) = (a2 == a3)) := by simpa using c21))
                clear c21
                obtain rfl := Option.some.inj H
                go_wp2_with (first | ((with_reducible refine gate_callee (f := 14) rfl ?_); refine goesL_ (some 46) rfl rfl Try.func14 (by kernel_rfl) rfl #[.int .u64 a2] rfl (by (try simp only [List.map_toArray, List.map_cons, List.map_nil]); first | done | rfl | (simp only [List.length_drop, List.length_take]; rfl) | (rw [IntWalk.u64_in _ ⟨by omega, by omega⟩]; rfl)) ?_; (with_reducible refine (pack_Wide.calls kj8 a2 t331 _ A17.out).mono ?_); rintro e w27 ⟨rfl, hb⟩; refine ⟨_, rfl, ?_⟩; have n0_ := Aside0.mk (below_step (by repeat (first | (with_reducible first | exact HB.out | apply below_alloc | apply pw_below_drewN | apply below_drew1) | exact HB.out)) hb); clear HB; have HB := n0_; clear n0_; (try clear hb); (try clear hb2); (try clear hk); (try clear hi)) | ((with_reducible refine gate_callee (f := 14) rfl ?_); refine goesL_ (some 48) rfl rfl Try.func14 (by kernel_rfl) rfl #[.int .u64 a3] rfl (by (try simp only [List.map_toArray, List.map_cons, List.map_nil]); first | done | rfl | (simp only [List.length_drop, List.length_take]; rfl) | (rw [IntWalk.u64_in _ ⟨by omega, by omega⟩]; rfl)) ?_; (with_reducible refine (pack_Wide.calls kj8 a3 t332 _ A18.out).mono ?_); rintro e w28 ⟨rfl, hb⟩; refine ⟨_, rfl, ?_⟩; have n0_ := Aside0.mk (below_step (by repeat (first | (with_reducible first | exact HB.out | apply below_alloc | apply pw_below_drewN | apply below_drew1) | exact HB.out)) hb); clear HB; have HB := n0_; clear n0_; (try clear hb); (try clear hb2); (try clear hk); (try clear hi)))
                go_ret
                exact ⟨by first | rfl | (simp [errW_none, errW_some] <;> rfl) | (simp [*, errW_none, errW_some] <;> rfl), by repeat (first | (with_reducible first | exact HB.out | apply below_alloc | apply pw_below_drewN | apply below_drew1) | exact HB.out)⟩
            · rw [if_neg c20] at H
              have c20b0 : ((Op.bytesLess t331.toList t332.toList) == (decide (a2 < a3))) = false := by simpa using c20
              (try (have c20b1 : decide ((Op.bytesLess t331.toList t332.toList) = (decide (a2 < a3))) = false := by simpa using c20))
              (try (have c20b2 : ((Op.bytesLess t331.toList t332.toList) == (decide (a2 < a3))) = false := by simpa using c20))
              (try (have c20b3 : ¬ ((Op.bytesLess t331.toList t332.toList) = (decide (a2 < a3))) := by simpa using c20))
              clear c20
              obtain rfl := Option.some.inj H
              go_wp2_with (first | ((with_reducible refine gate_callee (f := 14) rfl ?_); refine goesL_ (some 46) rfl rfl Try.func14 (by kernel_rfl) rfl #[.int .u64 a2] rfl (by (try simp only [List.map_toArray, List.map_cons, List.map_nil]); first | done | rfl | (simp only [List.length_drop, List.length_take]; rfl) | (rw [IntWalk.u64_in _ ⟨by omega, by omega⟩]; rfl)) ?_; (with_reducible refine (pack_Wide.calls kj8 a2 t331 _ A17.out).mono ?_); rintro e w29 ⟨rfl, hb⟩; refine ⟨_, rfl, ?_⟩; have n0_ := Aside0.mk (below_step (by repeat (first | (with_reducible first | exact HB.out | apply below_alloc | apply pw_below_drewN | apply below_drew1) | exact HB.out)) hb); clear HB; have HB := n0_; clear n0_; (try clear hb); (try clear hb2); (try clear hk); (try clear hi)) | ((with_reducible refine gate_callee (f := 14) rfl ?_); refine goesL_ (some 48) rfl rfl Try.func14 (by kernel_rfl) rfl #[.int .u64 a3] rfl (by (try simp only [List.map_toArray, List.map_cons, List.map_nil]); first | done | rfl | (simp only [List.length_drop, List.length_take]; rfl) | (rw [IntWalk.u64_in _ ⟨by omega, by omega⟩]; rfl)) ?_; (with_reducible refine (pack_Wide.calls kj8 a3 t332 _ A18.out).mono ?_); rintro e w30 ⟨rfl, hb⟩; refine ⟨_, rfl, ?_⟩; have n0_ := Aside0.mk (below_step (by repeat (first | (with_reducible first | exact HB.out | apply below_alloc | apply pw_below_drewN | apply below_drew1) | exact HB.out)) hb); clear HB; have HB := n0_; clear n0_; (try clear hb); (try clear hb2); (try clear hk); (try clear hi)))
              go_ret
              exact ⟨by first | rfl | (simp [errW_none, errW_some] <;> rfl) | (simp [*, errW_none, errW_some] <;> rfl), by repeat (first | (with_reducible first | exact HB.out | apply below_alloc | apply pw_below_drewN | apply below_drew1) | exact HB.out)⟩
          · rw [if_neg c19] at H
            have c19b0 : ((t331.size : Int) == 8) = false := beq_eq_false_iff_ne.mpr c19
            have c19b1 : ((t331.size : Int) != 8) = true := bne_iff_ne.mpr c19
            obtain rfl := Option.some.inj H
            go_wp2_with (first | ((with_reducible refine gate_callee (f := 14) rfl ?_); refine goesL_ (some 46) rfl rfl Try.func14 (by kernel_rfl) rfl #[.int .u64 a2] rfl (by (try simp only [List.map_toArray, List.map_cons, List.map_nil]); first | done | rfl | (simp only [List.length_drop, List.length_take]; rfl) | (rw [IntWalk.u64_in _ ⟨by omega, by omega⟩]; rfl)) ?_; (with_reducible refine (pack_Wide.calls kj8 a2 t331 _ A17.out).mono ?_); rintro e w31 ⟨rfl, hb⟩; refine ⟨_, rfl, ?_⟩; have n0_ := Aside0.mk (below_step (by repeat (first | (with_reducible first | exact HB.out | apply below_alloc | apply pw_below_drewN | apply below_drew1) | exact HB.out)) hb); clear HB; have HB := n0_; clear n0_; (try clear hb); (try clear hb2); (try clear hk); (try clear hi)) | ((with_reducible refine gate_callee (f := 14) rfl ?_); refine goesL_ (some 48) rfl rfl Try.func14 (by kernel_rfl) rfl #[.int .u64 a3] rfl (by (try simp only [List.map_toArray, List.map_cons, List.map_nil]); first | done | rfl | (simp only [List.length_drop, List.length_take]; rfl) | (rw [IntWalk.u64_in _ ⟨by omega, by omega⟩]; rfl)) ?_; (with_reducible refine (pack_Wide.calls kj8 a3 t332 _ A18.out).mono ?_); rintro e w32 ⟨rfl, hb⟩; refine ⟨_, rfl, ?_⟩; have n0_ := Aside0.mk (below_step (by repeat (first | (with_reducible first | exact HB.out | apply below_alloc | apply pw_below_drewN | apply below_drew1) | exact HB.out)) hb); clear HB; have HB := n0_; clear n0_; (try clear hb); (try clear hb2); (try clear hk); (try clear hi)))
            go_ret
            exact ⟨by first | rfl | (simp [errW_none, errW_some] <;> rfl) | (simp [*, errW_none, errW_some] <;> rfl), by repeat (first | (with_reducible first | exact HB.out | apply below_alloc | apply pw_below_drewN | apply below_drew1) | exact HB.out)⟩
  · replace c8 := Bool.eq_false_iff.mpr c8
    subst c8
    have H1 : (some false) = some r := by rw [if_neg (show ¬ (false = true) by decide)] at H; exact H
    clear H
    have H := H1
    clear H1
    obtain rfl := Option.some.inj H
    go_enter Try.func6, Try.ntmps6
    go_wp2_with (first | ((with_reducible refine gate_callee (f := 10) rfl ?_); refine goesL_ (some 17) rfl rfl Try.func10 (by kernel_rfl) rfl #[.int .i64 a0] rfl (by (try simp only [List.map_toArray, List.map_cons, List.map_nil]); first | done | rfl | (simp only [List.length_drop, List.length_take]; rfl) | (rw [IntWalk.u64_in _ ⟨by omega, by omega⟩]; rfl)) ?_; (with_reducible refine (pack_Num.calls k a0 t326 t327 _ A5.out).mono ?_); rintro e w33 ⟨rfl, hb⟩; refine ⟨_, rfl, ?_⟩; have n0_ := Aside0.mk (below_step (by repeat (first | (with_reducible first | exact HB.out | apply below_alloc | apply pw_below_drewN | apply below_drew1) | exact HB.out)) hb); clear HB; have HB := n0_; clear n0_; (try clear hb); (try clear hb2); (try clear hk); (try clear hi)) | ((with_reducible refine gate_callee (f := 10) rfl ?_); refine goesL_ (some 22) rfl rfl Try.func10 (by kernel_rfl) rfl #[.int .i64 a1] rfl (by (try simp only [List.map_toArray, List.map_cons, List.map_nil]); first | done | rfl | (simp only [List.length_drop, List.length_take]; rfl) | (rw [IntWalk.u64_in _ ⟨by omega, by omega⟩]; rfl)) ?_; (with_reducible refine (pack_Num.calls k a1 t328 t329 _ A6.out).mono ?_); rintro e w34 ⟨rfl, hb⟩; refine ⟨_, rfl, ?_⟩; have n0_ := Aside0.mk (below_step (by repeat (first | (with_reducible first | exact HB.out | apply below_alloc | apply pw_below_drewN | apply below_drew1) | exact HB.out)) hb); clear HB; have HB := n0_; clear n0_; (try clear hb); (try clear hb2); (try clear hk); (try clear hi)) | ((with_reducible refine gate_callee (f := 9) rfl ?_); refine goesL_ (some 25) rfl rfl Try.func9 (by kernel_rfl) rfl #[] rfl (by (try simp only [List.map_toArray, List.map_cons, List.map_nil]); first | done | rfl | (simp only [List.length_drop, List.length_take]; rfl) | (rw [IntWalk.u64_in _ ⟨by omega, by omega⟩]; rfl)) ?_; (with_reducible refine (rosarylaw3_alive.calls k  false _ A7.out).mono ?_); rintro e w35 ⟨rfl, hb⟩; refine ⟨_, rfl, ?_⟩; have n0_ := Aside0.mk (below_step (by repeat (first | (with_reducible first | exact HB.out | apply below_alloc | apply pw_below_drewN | apply below_drew1) | exact HB.out)) hb); clear HB; have HB := n0_; clear n0_; (try clear hb); (try clear hb2); (try clear hk); (try clear hi)))
    go_ret
    exact ⟨by first | rfl | (simp [errW_none, errW_some] <;> rfl) | (simp [*, errW_none, errW_some] <;> rfl), by repeat (first | (with_reducible first | exact HB.out | apply below_alloc | apply pw_below_drewN | apply below_drew1) | exact HB.out)⟩

/-- THE ONE PURE STATEMENT of rosarylaw3_PackNums: yours. -/
def rosarylaw3_PackNums.Pure : Prop := ∀ (a0 : Int) (a1 : Int) (a2 : Int) (a3 : Int), (Lit.int .i64 a0).wf = true → (Lit.int .i64 a1).wf = true → (Lit.int .u64 a2).wf = true → (Lit.int .u64 a3).wf = true → ∃ k, rosarylaw3_PackNums.f k a0 a1 a2 a3 = some true
theorem rosarylaw3_PackNums.walk (P : rosarylaw3_PackNums.Pure) (a0 : Int) (a1 : Int) (a2 : Int) (a3 : Int) (w : World) (w0 : (Lit.int .i64 a0).wf = true) (w1 : (Lit.int .i64 a1).wf = true) (w2 : (Lit.int .u64 a2).wf = true) (w3 : (Lit.int .u64 a3).wf = true) :
    Calls Try.prog 6 #[.int .i64 a0, .int .i64 a1, .int .u64 a2, .int .u64 a3] w fun e w' => e = .returned (.bool true) ∧ Below w.heap.size w w' := by
  obtain ⟨k, h⟩ := P a0 a1 a2 a3 w0 w1 w2 w3
  refine (rosarylaw3_PackNums.calls k a0 a1 a2 a3 true w h).mono ?_
  rintro e w' ⟨rfl, hd⟩
  exact ⟨rfl, hd⟩

end Go.Proofs.Ytnfdgbapionojaa.P
