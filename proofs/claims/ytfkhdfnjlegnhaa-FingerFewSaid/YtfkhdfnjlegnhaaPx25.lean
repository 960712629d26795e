-- Printed by this session's program wip/lprint.py (a changed copy of the kit's print), out of the translation. Not trusted: Lean checks it.
import Derived.Test.YtfkhdfnjlegnhaaPx0
import Derived.Test.YtfkhdfnjlegnhaaPx5
import Derived.Test.YtfkhdfnjlegnhaaPx6
namespace Go.Proofs.Ytfkhdfnjlegnhaa.P
open Go.RowKit Go.Proofs.YtfkhdfnjlegnhaaW.PrintWords Go.Proofs.YtfkhdfnjlegnhaaW.PrintLast Go.Proofs.YtfkhdfnjlegnhaaW.PrintMore
attribute [local go_sem] max2_int min2_int max_two min_two max_three min_three max_four min_four   -- for this text's walks alone
set_option linter.unusedVariables false
set_option linter.unusedSimpArgs false

/-! ### rosarylaw12_FingerFew: function 5 -/
mutual
def rosarylaw12_FingerFew.j0 : Nat → Int → List Int → Bool → Option (Bool)
  | 0, _, _, _ => none
  | k + 1, x0, x1, x20 => if x20 = true then ((rosarylaw12_alive.f k).bind fun t381 => (some t381)) else ((finger_Fingers.f k x0 x1).bind fun t382 => (if (t382.length : Int) > 64 then (some false) else (rosarylaw12_FingerFew.l0 k x0 t382 0 false x1 (x1.length : Int) 0)))
def rosarylaw12_FingerFew.l0 : Nat → Int → List Int → Int → Bool → List Int → Int → Int → Option (Bool)
  | 0, _, _, _, _, _, _, _ => none
  | k + 1, x0, x5, x6, x7, x28, x29, x30 => if x30 < x29 then (if 0 ≤ x30 then (if x30 < (x28.length : Int) then (if (rd x28 x30) = x0 then (rosarylaw12_FingerFew.l0 k x0 x5 x6 x7 x28 x29 (wrap64 (x30 + 1))) else (if x7 = true then (if (IntKind.u64.wrap ((rd x28 x30) - x0)) < (IntKind.u64.wrap (x6 - x0)) then (rosarylaw12_FingerFew.l0 k x0 x5 (rd x28 x30) true x28 x29 (wrap64 (x30 + 1))) else (rosarylaw12_FingerFew.l0 k x0 x5 x6 x7 x28 x29 (wrap64 (x30 + 1)))) else (rosarylaw12_FingerFew.l0 k x0 x5 (rd x28 x30) true x28 x29 (wrap64 (x30 + 1))))) else (none)) else (none)) else (rosarylaw12_FingerFew.l1 k x0 x5 x6 x7 false x5 (x5.length : Int) 0)
def rosarylaw12_FingerFew.l1 : Nat → Int → List Int → Int → Bool → Bool → List Int → Int → Int → Option (Bool)
  | 0, _, _, _, _, _, _, _, _ => none
  | k + 1, x0, x5, x6, x7, x10, x52, x53, x54 => if x54 < x53 then (if 0 ≤ x54 then (if x54 < (x52.length : Int) then (if x10 = true then (rosarylaw12_FingerFew.j3 k x0 x5 x6 x7 true x54 (rd x52 x54) x52 x53 x54) else (rosarylaw12_FingerFew.j3 k x0 x5 x6 x7 ((rd x52 x54) == x6) x54 (rd x52 x54) x52 x53 x54)) else (none)) else (none)) else (if (x10 == x7) = true then (if x7 = true then (some true) else (some ((x5.length : Int) == 0))) else (some false))
def rosarylaw12_FingerFew.j3 : Nat → Int → List Int → Int → Bool → Bool → Int → Int → List Int → Int → Int → Option (Bool)
  | 0, _, _, _, _, _, _, _, _, _, _ => none
  | k + 1, x0, x5, x6, x7, x10, x11, x12, x52, x53, x54 => if x12 = x0 then (some false) else (rosarylaw12_FingerFew.l2 k x0 x5 x6 x7 x10 x11 x12 0 x52 x53 x54)
def rosarylaw12_FingerFew.l2 : Nat → Int → List Int → Int → Bool → Bool → Int → Int → Int → List Int → Int → Int → Option (Bool)
  | 0, _, _, _, _, _, _, _, _, _, _, _ => none
  | k + 1, x0, x5, x6, x7, x10, x11, x12, x13, x52, x53, x54 => if x13 < x11 then (if 0 ≤ x13 then (if x13 < (x5.length : Int) then (if (rd x5 x13) = x12 then (some false) else (rosarylaw12_FingerFew.l2 k x0 x5 x6 x7 x10 x11 x12 (wrap64 (x13 + 1)) x52 x53 x54)) else (none)) else (none)) else (rosarylaw12_FingerFew.l1 k x0 x5 x6 x7 x10 x52 x53 (wrap64 (x54 + 1)))
end
def rosarylaw12_FingerFew.f (k : Nat) (a0 : Int) (l1 : List Int) : Option (Bool) := if (l1.length : Int) > 60 then (rosarylaw12_FingerFew.j0 k a0 l1 true) else ((rosarylaw12_alive.f k).bind fun t380 => (rosarylaw12_FingerFew.j0 k a0 l1 (!t380)))
theorem rosarylaw12_FingerFew.mono_l : ∀ k, (∀ y0 y1 y2, LeO (rosarylaw12_FingerFew.j0 k y0 y1 y2) (rosarylaw12_FingerFew.j0 (k + 1) y0 y1 y2)) ∧ (∀ y0 y1 y2 y3 y4 y5 y6, LeO (rosarylaw12_FingerFew.l0 k y0 y1 y2 y3 y4 y5 y6) (rosarylaw12_FingerFew.l0 (k + 1) y0 y1 y2 y3 y4 y5 y6)) ∧ (∀ y0 y1 y2 y3 y4 y5 y6 y7, LeO (rosarylaw12_FingerFew.l1 k y0 y1 y2 y3 y4 y5 y6 y7) (rosarylaw12_FingerFew.l1 (k + 1) y0 y1 y2 y3 y4 y5 y6 y7)) ∧ (∀ y0 y1 y2 y3 y4 y5 y6 y7 y8 y9, LeO (rosarylaw12_FingerFew.j3 k y0 y1 y2 y3 y4 y5 y6 y7 y8 y9) (rosarylaw12_FingerFew.j3 (k + 1) y0 y1 y2 y3 y4 y5 y6 y7 y8 y9)) ∧ (∀ y0 y1 y2 y3 y4 y5 y6 y7 y8 y9 y10, LeO (rosarylaw12_FingerFew.l2 k y0 y1 y2 y3 y4 y5 y6 y7 y8 y9 y10) (rosarylaw12_FingerFew.l2 (k + 1) y0 y1 y2 y3 y4 y5 y6 y7 y8 y9 y10))
  | 0 => ⟨fun _ _ _ r h => by simp [rosarylaw12_FingerFew.j0] at h, fun _ _ _ _ _ _ _ r h => by simp [rosarylaw12_FingerFew.l0] at h, fun _ _ _ _ _ _ _ _ r h => by simp [rosarylaw12_FingerFew.l1] at h, fun _ _ _ _ _ _ _ _ _ _ r h => by simp [rosarylaw12_FingerFew.j3] at h, fun _ _ _ _ _ _ _ _ _ _ _ r h => by simp [rosarylaw12_FingerFew.l2] at h⟩
  | k + 1 => by
    obtain ⟨ih0, ih1, ih2, ih3, ih4⟩ := rosarylaw12_FingerFew.mono_l k
    refine ⟨?_, ?_, ?_, ?_, ?_⟩
    · intro y0 y1 y2
      unfold rosarylaw12_FingerFew.j0
      repeat' first
      | (with_reducible exact ih0 _ _ _)
      | (with_reducible exact ih1 _ _ _ _ _ _ _)
      | (with_reducible exact ih2 _ _ _ _ _ _ _ _)
      | (with_reducible exact ih3 _ _ _ _ _ _ _ _ _ _)
      | (with_reducible exact ih4 _ _ _ _ _ _ _ _ _ _ _)
      | (with_reducible exact finger_Fingers.mono _ _ _)
      | (with_reducible exact rosarylaw12_alive.mono _)
      | (with_reducible exact LeO.refl _)
      | (with_reducible exact LeO.none _)
      | (with_reducible refine LeO.ite ?_ ?_)
      | (with_reducible refine LeO.bind ?_ (fun _ => ?_))
      | exact ih0 _ _ _
      | exact ih1 _ _ _ _ _ _ _
      | exact ih2 _ _ _ _ _ _ _ _
      | exact ih3 _ _ _ _ _ _ _ _ _ _
      | exact ih4 _ _ _ _ _ _ _ _ _ _ _
      | exact finger_Fingers.mono _ _ _
      | exact rosarylaw12_alive.mono _
      | exact LeO.none _
      | refine LeO.ite ?_ ?_
      | refine LeO.bind ?_ (fun _ => ?_)
    · intro y0 y1 y2 y3 y4 y5 y6
      unfold rosarylaw12_FingerFew.l0
      repeat' first
      | (with_reducible exact ih0 _ _ _)
      | (with_reducible exact ih1 _ _ _ _ _ _ _)
      | (with_reducible exact ih2 _ _ _ _ _ _ _ _)
      | (with_reducible exact ih3 _ _ _ _ _ _ _ _ _ _)
      | (with_reducible exact ih4 _ _ _ _ _ _ _ _ _ _ _)
      | (with_reducible exact finger_Fingers.mono _ _ _)
      | (with_reducible exact rosarylaw12_alive.mono _)
      | (with_reducible exact LeO.refl _)
      | (with_reducible exact LeO.none _)
      | (with_reducible refine LeO.ite ?_ ?_)
      | (with_reducible refine LeO.bind ?_ (fun _ => ?_))
      | exact ih0 _ _ _
      | exact ih1 _ _ _ _ _ _ _
      | exact ih2 _ _ _ _ _ _ _ _
      | exact ih3 _ _ _ _ _ _ _ _ _ _
      | exact ih4 _ _ _ _ _ _ _ _ _ _ _
      | exact finger_Fingers.mono _ _ _
      | exact rosarylaw12_alive.mono _
      | exact LeO.none _
      | refine LeO.ite ?_ ?_
      | refine LeO.bind ?_ (fun _ => ?_)
    · intro y0 y1 y2 y3 y4 y5 y6 y7
      unfold rosarylaw12_FingerFew.l1
      repeat' first
      | (with_reducible exact ih0 _ _ _)
      | (with_reducible exact ih1 _ _ _ _ _ _ _)
      | (with_reducible exact ih2 _ _ _ _ _ _ _ _)
      | (with_reducible exact ih3 _ _ _ _ _ _ _ _ _ _)
      | (with_reducible exact ih4 _ _ _ _ _ _ _ _ _ _ _)
      | (with_reducible exact finger_Fingers.mono _ _ _)
      | (with_reducible exact rosarylaw12_alive.mono _)
      | (with_reducible exact LeO.refl _)
      | (with_reducible exact LeO.none _)
      | (with_reducible refine LeO.ite ?_ ?_)
      | (with_reducible refine LeO.bind ?_ (fun _ => ?_))
      | exact ih0 _ _ _
      | exact ih1 _ _ _ _ _ _ _
      | exact ih2 _ _ _ _ _ _ _ _
      | exact ih3 _ _ _ _ _ _ _ _ _ _
      | exact ih4 _ _ _ _ _ _ _ _ _ _ _
      | exact finger_Fingers.mono _ _ _
      | exact rosarylaw12_alive.mono _
      | exact LeO.none _
      | refine LeO.ite ?_ ?_
      | refine LeO.bind ?_ (fun _ => ?_)
    · intro y0 y1 y2 y3 y4 y5 y6 y7 y8 y9
      unfold rosarylaw12_FingerFew.j3
      repeat' first
      | (with_reducible exact ih0 _ _ _)
      | (with_reducible exact ih1 _ _ _ _ _ _ _)
      | (with_reducible exact ih2 _ _ _ _ _ _ _ _)
      | (with_reducible exact ih3 _ _ _ _ _ _ _ _ _ _)
      | (with_reducible exact ih4 _ _ _ _ _ _ _ _ _ _ _)
      | (with_reducible exact finger_Fingers.mono _ _ _)
      | (with_reducible exact rosarylaw12_alive.mono _)
      | (with_reducible exact LeO.refl _)
      | (with_reducible exact LeO.none _)
      | (with_reducible refine LeO.ite ?_ ?_)
      | (with_reducible refine LeO.bind ?_ (fun _ => ?_))
      | exact ih0 _ _ _
      | exact ih1 _ _ _ _ _ _ _
      | exact ih2 _ _ _ _ _ _ _ _
      | exact ih3 _ _ _ _ _ _ _ _ _ _
      | exact ih4 _ _ _ _ _ _ _ _ _ _ _
      | exact finger_Fingers.mono _ _ _
      | exact rosarylaw12_alive.mono _
      | exact LeO.none _
      | refine LeO.ite ?_ ?_
      | refine LeO.bind ?_ (fun _ => ?_)
    · intro y0 y1 y2 y3 y4 y5 y6 y7 y8 y9 y10
      unfold rosarylaw12_FingerFew.l2
      repeat' first
      | (with_reducible exact ih0 _ _ _)
      | (with_reducible exact ih1 _ _ _ _ _ _ _)
      | (with_reducible exact ih2 _ _ _ _ _ _ _ _)
      | (with_reducible exact ih3 _ _ _ _ _ _ _ _ _ _)
      | (with_reducible exact ih4 _ _ _ _ _ _ _ _ _ _ _)
      | (with_reducible exact finger_Fingers.mono _ _ _)
      | (with_reducible exact rosarylaw12_alive.mono _)
      | (with_reducible exact LeO.refl _)
      | (with_reducible exact LeO.none _)
      | (with_reducible refine LeO.ite ?_ ?_)
      | (with_reducible refine LeO.bind ?_ (fun _ => ?_))
      | exact ih0 _ _ _
      | exact ih1 _ _ _ _ _ _ _
      | exact ih2 _ _ _ _ _ _ _ _
      | exact ih3 _ _ _ _ _ _ _ _ _ _
      | exact ih4 _ _ _ _ _ _ _ _ _ _ _
      | exact finger_Fingers.mono _ _ _
      | exact rosarylaw12_alive.mono _
      | exact LeO.none _
      | refine LeO.ite ?_ ?_
      | refine LeO.bind ?_ (fun _ => ?_)
theorem rosarylaw12_FingerFew.mono : ∀ a0 a1 k, LeO (rosarylaw12_FingerFew.f k a0 a1) (rosarylaw12_FingerFew.f (k + 1) a0 a1) := by
  intro a0 a1 k
  obtain ⟨ih0, ih1, ih2, ih3, ih4⟩ := rosarylaw12_FingerFew.mono_l k
  unfold rosarylaw12_FingerFew.f
  repeat' first
      | (with_reducible exact ih0 _ _ _)
      | (with_reducible exact ih1 _ _ _ _ _ _ _)
      | (with_reducible exact ih2 _ _ _ _ _ _ _ _)
      | (with_reducible exact ih3 _ _ _ _ _ _ _ _ _ _)
      | (with_reducible exact ih4 _ _ _ _ _ _ _ _ _ _ _)
      | (with_reducible exact finger_Fingers.mono _ _ _)
      | (with_reducible exact rosarylaw12_alive.mono _)
      | (with_reducible exact LeO.refl _)
      | (with_reducible exact LeO.none _)
      | (with_reducible refine LeO.ite ?_ ?_)
      | (with_reducible refine LeO.bind ?_ (fun _ => ?_))
      | exact ih0 _ _ _
      | exact ih1 _ _ _ _ _ _ _
      | exact ih2 _ _ _ _ _ _ _ _
      | exact ih3 _ _ _ _ _ _ _ _ _ _
      | exact ih4 _ _ _ _ _ _ _ _ _ _ _
      | exact finger_Fingers.mono _ _ _
      | exact rosarylaw12_alive.mono _
      | exact LeO.none _
      | refine LeO.ite ?_ ?_
      | refine LeO.bind ?_ (fun _ => ?_)
set_option maxHeartbeats 8000000 in
set_option maxRecDepth 100000 in
theorem rosarylaw12_FingerFew.calls (k : Nat) (a0 : Int) (A1 : Option Addr) (c1 : Nat) (l1 : List Int) (r : Bool) (w : World) (hr1 : Kd.C (Kd.int .u64) w A1 l1.length l1) (hc1 : l1.length ≤ c1) (h : rosarylaw12_FingerFew.f k a0 l1 = some r) :
    Calls Try.prog 5 #[.int .u64 a0, .slice A1 l1.length c1] w fun e w' => e = .returned (.bool r) ∧ Below w.heap.size w w' := by
  have HR1 := Aside0.mk hr1
  have HC1 := Aside0.mk hc1
  clear hr1 hc1
  have HB := Aside0.mk (Below.refl w.heap.size w)
  have H : (if (l1.length : Int) > 60 then (rosarylaw12_FingerFew.j0 k a0 l1 true) else ((rosarylaw12_alive.f k).bind fun t380 => (rosarylaw12_FingerFew.j0 k a0 l1 (!t380)))) = some r := h
  clear h
  have HC3 := Aside0.mk H
  clear H
  go_enter Try.func5, Try.ntmps5
  go_upto_region 1 with (fail)
  go_cut [20] (fun v20 wc => ∃ (kq : Nat) (x20_2 : Bool), v20 = .bool x20_2 ∧ Aside0 (rosarylaw12_FingerFew.j0 kq a0 l1 x20_2 = some r) ∧ Aside0 (kq ≤ k) ∧ Aside0 (Below w.heap.size w wc))
  case first =>
    have H := HC3.out
    clear HC3
    by_cases c4 : (l1.length : Int) > 60
    · rw [if_pos c4] at H
      have c4b0 : decide (60 < (l1.length : Int)) = true := decide_eq_true c4
      have c4b1 : decide (60 < l1.length) = true := decide_eq_true (by omega)
      clear c4
      (first | rw [c4b0] | (simp only [i64_w, i32_w]; rw [c4b0]) | skip)
      have H' := Aside0.mk H
      clear H
      go_wp2
      go_meet
      case rel => exact ⟨_, (true), (by first | rfl | (simp; done) | (simp [*]; done)), H', ⟨by first | omega | exact Nat.le_refl _⟩, ⟨by repeat (first | (with_reducible first | exact HB.out | apply below_alloc | apply pw_below_drewN | apply below_drew1) | exact HB.out)⟩⟩
    · rw [if_neg c4] at H
      have c4b0 : decide (60 < (l1.length : Int)) = false := decide_eq_false c4
      have c4b1 : decide (60 < l1.length) = false := decide_eq_false (by omega)
      clear c4
      (first | rw [c4b0] | (simp only [i64_w, i32_w]; rw [c4b0]) | skip)
      replace H := Option.bind_eq_some_iff.mp H
      obtain ⟨t380, A50, H⟩ := H
      replace H : (rosarylaw12_FingerFew.j0 k a0 l1 (!t380)) = some r := H
      have A5 := Aside0.mk A50
      clear A50
      have H' := Aside0.mk H
      clear H
      go_wp2_with (first | (go_at_call 9; (with_reducible refine (rosarylaw12_alive.calls k  t380 _ A5.out).mono ?_); rintro e w6 ⟨rfl, hb⟩; have n0_ := Aside0.mk (below_step (by repeat (first | (with_reducible first | exact HB.out | apply below_alloc | apply pw_below_drewN | apply below_drew1) | exact HB.out)) hb); clear HB; have HB := n0_; clear n0_; (try clear hb); (try clear hb2); (try clear hk); (try clear hi)))
      go_meet
      case rel => exact ⟨_, (!t380), (by first | rfl | (simp; done) | (simp [*]; done)), H', ⟨by first | omega | exact Nat.le_refl _⟩, ⟨by repeat (first | (with_reducible first | exact HB.out | apply below_alloc | apply pw_below_drewN | apply below_drew1) | exact HB.out)⟩⟩
  case rest =>
    clear HC3
    try clear c1
    try clear p2
    try clear c4
    try clear c4b0
    try clear c4b1
    try clear c5
    obtain ⟨kq, x20_2, rfl, HA, HJ2, HB⟩ := hcut
    cases kq with
    | zero => exact absurd HA.out (by simp [rosarylaw12_FingerFew.j0])
    | succ kj2 =>
      have H := HA.out
      clear HA
      simp only [rosarylaw12_FingerFew.j0] at H
      by_cases c7 : x20_2 = true
      · subst c7
        have H1 : ((rosarylaw12_alive.f kj2).bind fun t381 => (some t381)) = some r := by rw [if_pos rfl] at H; exact H
        clear H
        have H := H1
        clear H1
        replace H := Option.bind_eq_some_iff.mp H
        obtain ⟨t381, A80, H⟩ := H
        replace H : (some t381) = some r := H
        have A8 := Aside0.mk A80
        clear A80
        obtain rfl := Option.some.inj H
        go_wp2_with (first | ((with_reducible refine gate_callee (f := 9) rfl ?_); refine goesL_ (some 21) rfl rfl Try.func9 (by kernel_rfl) rfl #[] rfl (by (try simp only [List.map_toArray, List.map_cons, List.map_nil]); first | done | rfl | (simp only [List.length_drop, List.length_take]; rfl)) ?_; (with_reducible refine (rosarylaw12_alive.calls kj2  t381 _ A8.out).mono ?_); rintro e w9 ⟨rfl, hb⟩; refine ⟨_, rfl, ?_⟩; have n0_ := Aside0.mk (below_step (by repeat (first | (with_reducible first | exact HB.out | apply below_alloc | apply pw_below_drewN | apply below_drew1) | exact HB.out)) hb); clear HB; have HB := n0_; clear n0_; (try clear hb); (try clear hb2); (try clear hk); (try clear hi)))
        go_ret
        exact ⟨by first | rfl | (simp [errW_none, errW_some] <;> rfl) | (simp [*, errW_none, errW_some] <;> rfl), by repeat (first | (with_reducible first | exact HB.out | apply below_alloc | apply pw_below_drewN | apply below_drew1) | exact HB.out)⟩
      · replace c7 := Bool.eq_false_iff.mpr c7
        subst c7
        have H1 : ((finger_Fingers.f kj2 a0 l1).bind fun t382 => (if (t382.length : Int) > 64 then (some false) else (rosarylaw12_FingerFew.l0 kj2 a0 t382 0 false l1 (l1.length : Int) 0))) = some r := by rw [if_neg (show ¬ (false = true) by decide)] at H; exact H
        clear H
        have H := H1
        clear H1
        replace H := Option.bind_eq_some_iff.mp H
        obtain ⟨t382, A100, H⟩ := H
        replace H : (if (t382.length : Int) > 64 then (some false) else (rosarylaw12_FingerFew.l0 kj2 a0 t382 0 false l1 (l1.length : Int) 0)) = some r := H
        have A10 := Aside0.mk A100
        clear A100
        by_cases c11 : (t382.length : Int) > 64
        · rw [if_pos c11] at H
          have c11b0 : decide (64 < (t382.length : Int)) = true := decide_eq_true c11
          have c11b1 : decide (64 < t382.length) = true := decide_eq_true (by omega)
          clear c11
          obtain rfl := Option.some.inj H
          go_wp2_with (first | ((with_reducible refine gate_callee (f := 11) rfl ?_); refine goesL_ (some 24) rfl rfl Try.func11 (by kernel_rfl) rfl #[.int .u64 a0, .slice A1 l1.length c1] rfl (by (try simp only [List.map_toArray, List.map_cons, List.map_nil]); first | done | rfl | (simp only [List.length_drop, List.length_take]; rfl)) ?_; (with_reducible refine (finger_Fingers.calls kj2 a0 _ _ l1 t382 _ ?side1 ?side2 A10.out).mono ?_); (case side1 => repeat (first | exact (Kd.C_below HR1.out HB.out) | (with_reducible refine Kd.C_alloc ?_ _) | (with_reducible refine Kd.C_drewN ?_ _) | (with_reducible refine Kd.C_drew ?_))); (case side2 => exact HC1.out); rintro e w12 ⟨v383, rfl, ho0, hb⟩; refine ⟨_, rfl, ?_⟩; have n0_ := Aside0.mk (Kd.R_lower ho0 (below_size (by repeat (first | (with_reducible first | exact HB.out | apply below_alloc | apply pw_below_drewN | apply below_drew1) | exact HB.out)))); have n1_ := Aside0.mk (below_step (by repeat (first | (with_reducible first | exact HB.out | apply below_alloc | apply pw_below_drewN | apply below_drew1) | exact HB.out)) hb); clear HB; have HO384 := n0_; have HB := n1_; clear n0_ n1_; (try clear hb); (try clear hb2); (try clear hk); (try clear hi); (try clear ho0); obtain ⟨Ao13, co13, eo13⟩ := Kd.R_slice HO384.out; subst eo13))
          go_ret
          exact ⟨by first | rfl | (simp [errW_none, errW_some] <;> rfl) | (simp [*, errW_none, errW_some] <;> rfl), by repeat (first | (with_reducible first | exact HB.out | apply below_alloc | apply pw_below_drewN | apply below_drew1) | exact HB.out)⟩
        · rw [if_neg c11] at H
          have c11b0 : decide (64 < (t382.length : Int)) = false := decide_eq_false c11
          have c11b1 : decide (64 < t382.length) = false := decide_eq_false (by omega)
          clear c11
          have H' := Aside0.mk H
          clear H
          go_wp2_with (first | ((with_reducible refine gate_callee (f := 11) rfl ?_); refine goesL_ (some 24) rfl rfl Try.func11 (by kernel_rfl) rfl #[.int .u64 a0, .slice A1 l1.length c1] rfl (by (try simp only [List.map_toArray, List.map_cons, List.map_nil]); first | done | rfl | (simp only [List.length_drop, List.length_take]; rfl)) ?_; (with_reducible refine (finger_Fingers.calls kj2 a0 _ _ l1 t382 _ ?side1 ?side2 A10.out).mono ?_); (case side1 => repeat (first | exact (Kd.C_below HR1.out HB.out) | (with_reducible refine Kd.C_alloc ?_ _) | (with_reducible refine Kd.C_drewN ?_ _) | (with_reducible refine Kd.C_drew ?_))); (case side2 => exact HC1.out); rintro e w14 ⟨v383, rfl, ho0, hb⟩; refine ⟨_, rfl, ?_⟩; have n0_ := Aside0.mk (Kd.R_lower ho0 (below_size (by repeat (first | (with_reducible first | exact HB.out | apply below_alloc | apply pw_below_drewN | apply below_drew1) | exact HB.out)))); have n1_ := Aside0.mk (below_step (by repeat (first | (with_reducible first | exact HB.out | apply below_alloc | apply pw_below_drewN | apply below_drew1) | exact HB.out)) hb); clear HB; have HO384 := n0_; have HB := n1_; clear n0_ n1_; (try clear hb); (try clear hb2); (try clear hk); (try clear hi); (try clear ho0); obtain ⟨Ao15, co15, eo15⟩ := Kd.R_slice HO384.out; subst eo15))
          go_loopg [6, 7, 30] kj2 (fun kq v6 v7 v30 w' => ∃ (x6_2 : Int) (x7_2 : Bool) (x30_2 : Int), v6 = .int .u64 x6_2 ∧ v7 = .bool x7_2 ∧ v30 = .int .i64 x30_2 ∧ Aside0 (rosarylaw12_FingerFew.l0 kq a0 t382 x6_2 x7_2 l1 (l1.length : Int) x30_2 = some r) ∧ Aside0 (kq ≤ kj2) ∧ Aside0 (Kd.R (Kd.int .u64) 22 w' w.heap.size (fun _ => True) (.slice Ao15 t382.length co15) t382) ∧ Aside0 (Below w.heap.size w w'))
          case atStart => exact ⟨(0), (false), (0), (by first | rfl | (simp; done) | (simp [*]; done)), (by first | rfl | (simp; done) | (simp [*]; done)), (by first | rfl | (simp; done) | (simp [*]; done)), H', ⟨Nat.le_refl _⟩, ⟨by (with_reducible repeat (first | apply Kd.R_alloc | apply Kd.R_drewN | apply Kd.R_drew)); exact HO384.out⟩, ⟨by repeat (first | (with_reducible first | exact HB.out | apply below_alloc | apply pw_below_drewN | apply below_drew1) | exact HB.out)⟩⟩
          case round =>
            clear H'
            try clear c1
            try clear p2
            try clear c4
            try clear c4b0
            try clear c4b1
            try clear c5
            try clear c7
            try clear c9
            try clear c11
            try clear c11b0
            try clear c11b1
            try clear p2
            obtain ⟨x6_2, x7_2, x30_2, rfl, rfl, rfl, HA, HK2, HO_5, HB⟩ := hrel
            cases gk with
            | zero => exact absurd HA.out (by simp [rosarylaw12_FingerFew.l0])
            | succ k2 =>
              have H := HA.out
              clear HA
              simp only [rosarylaw12_FingerFew.l0] at H
              by_cases c16 : x30_2 < (l1.length : Int)
              · rw [if_pos c16] at H
                have c16b0 : decide (x30_2 < (l1.length : Int)) = true := decide_eq_true c16
                clear c16
                by_cases c17 : 0 ≤ x30_2
                · rw [if_pos c17] at H
                  have c17b0 : decide (0 ≤ x30_2) = true := decide_eq_true c17
                  clear c17
                  by_cases c18 : x30_2 < (l1.length : Int)
                  · rw [if_pos c18] at H
                    have c18b0 : decide (x30_2 < (l1.length : Int)) = true := decide_eq_true c18
                    clear c18
                    by_cases c19 : (rd l1 x30_2) = a0
                    · rw [if_pos c19] at H
                      have c19b0 : ((rd l1 x30_2) == a0) = true := beq_iff_eq.mpr c19
                      have c19b1 : ((rd l1 x30_2) != a0) = false := bne_eq_false_iff_eq.mpr c19
                      clear c19
                      have H' := Aside0.mk H
                      clear H
                      have p385 : 0 ≤ (x30_2 : Int) := of_decide_eq_true (by first | (with_reducible assumption) | assumption)
                      have q385 : x30_2 < (l1.length : Int) := of_decide_eq_true (by first | (with_reducible assumption) | assumption)
                      obtain ⟨ad385, e385, hx385_0⟩ := Kd.at_int HR1.out x30_2 p385 q385
                      cases e385
                      replace hx385_0 := (HB.out.cell (World.block_lt_of_cell? w _ hx385_0)).trans hx385_0
                      replace p385 := eq_true p385
                      replace q385 := eq_true q385
                      go_wp2
                      go_roundg k2
                      case measure => have := HJ2.out; have := HK2.out; omega
                      case rel => exact ⟨(x6_2), (x7_2), (wrap64 (x30_2 + 1)), (by first | rfl | (simp; done) | (simp [*]; done)), (by first | rfl | (simp; done) | (simp [*]; done)), (by first | rfl | (simp; done) | (simp [*]; done)), H', ⟨by have := HJ2.out; have := HK2.out; omega⟩, ⟨by (with_reducible repeat (first | apply Kd.R_alloc | apply Kd.R_drewN | apply Kd.R_drew)); exact HO_5.out⟩, ⟨by repeat (first | (with_reducible first | exact HB.out | apply below_alloc | apply pw_below_drewN | apply below_drew1) | exact HB.out)⟩⟩
                    · rw [if_neg c19] at H
                      have c19b0 : ((rd l1 x30_2) == a0) = false := beq_eq_false_iff_ne.mpr c19
                      have c19b1 : ((rd l1 x30_2) != a0) = true := bne_iff_ne.mpr c19
                      by_cases c20 : x7_2 = true
                      · subst c20
                        have H1 : (if (IntKind.u64.wrap ((rd l1 x30_2) - a0)) < (IntKind.u64.wrap (x6_2 - a0)) then (rosarylaw12_FingerFew.l0 k2 a0 t382 (rd l1 x30_2) true l1 (l1.length : Int) (wrap64 (x30_2 + 1))) else (rosarylaw12_FingerFew.l0 k2 a0 t382 x6_2 true l1 (l1.length : Int) (wrap64 (x30_2 + 1)))) = some r := by rw [if_pos rfl] at H; exact H
                        clear H
                        have H := H1
                        clear H1
                        by_cases c21 : (IntKind.u64.wrap ((rd l1 x30_2) - a0)) < (IntKind.u64.wrap (x6_2 - a0))
                        · rw [if_pos c21] at H
                          have c21b0 : decide ((IntKind.u64.wrap ((rd l1 x30_2) - a0)) < (IntKind.u64.wrap (x6_2 - a0))) = true := decide_eq_true c21
                          clear c21
                          have H' := Aside0.mk H
                          clear H
                          have p385 : 0 ≤ (x30_2 : Int) := of_decide_eq_true (by first | (with_reducible assumption) | assumption)
                          have q385 : x30_2 < (l1.length : Int) := of_decide_eq_true (by first | (with_reducible assumption) | assumption)
                          obtain ⟨ad385, e385, hx385_0⟩ := Kd.at_int HR1.out x30_2 p385 q385
                          cases e385
                          replace hx385_0 := (HB.out.cell (World.block_lt_of_cell? w _ hx385_0)).trans hx385_0
                          replace p385 := eq_true p385
                          replace q385 := eq_true q385
                          go_wp2
                          go_roundg k2
                          case measure => have := HJ2.out; have := HK2.out; omega
                          case rel => exact ⟨(rd l1 x30_2), (true), (wrap64 (x30_2 + 1)), (by first | rfl | (simp; done) | (simp [*]; done)), (by first | rfl | (simp; done) | (simp [*]; done)), (by first | rfl | (simp; done) | (simp [*]; done)), H', ⟨by have := HJ2.out; have := HK2.out; omega⟩, ⟨by (with_reducible repeat (first | apply Kd.R_alloc | apply Kd.R_drewN | apply Kd.R_drew)); exact HO_5.out⟩, ⟨by repeat (first | (with_reducible first | exact HB.out | apply below_alloc | apply pw_below_drewN | apply below_drew1) | exact HB.out)⟩⟩
                        · rw [if_neg c21] at H
                          have c21b0 : decide ((IntKind.u64.wrap ((rd l1 x30_2) - a0)) < (IntKind.u64.wrap (x6_2 - a0))) = false := decide_eq_false c21
                          clear c21
                          have H' := Aside0.mk H
                          clear H
                          have p385 : 0 ≤ (x30_2 : Int) := of_decide_eq_true (by first | (with_reducible assumption) | assumption)
                          have q385 : x30_2 < (l1.length : Int) := of_decide_eq_true (by first | (with_reducible assumption) | assumption)
                          obtain ⟨ad385, e385, hx385_0⟩ := Kd.at_int HR1.out x30_2 p385 q385
                          cases e385
                          replace hx385_0 := (HB.out.cell (World.block_lt_of_cell? w _ hx385_0)).trans hx385_0
                          replace p385 := eq_true p385
                          replace q385 := eq_true q385
                          go_wp2
                          go_roundg k2
                          case measure => have := HJ2.out; have := HK2.out; omega
                          case rel => exact ⟨(x6_2), (true), (wrap64 (x30_2 + 1)), (by first | rfl | (simp; done) | (simp [*]; done)), (by first | rfl | (simp; done) | (simp [*]; done)), (by first | rfl | (simp; done) | (simp [*]; done)), H', ⟨by have := HJ2.out; have := HK2.out; omega⟩, ⟨by (with_reducible repeat (first | apply Kd.R_alloc | apply Kd.R_drewN | apply Kd.R_drew)); exact HO_5.out⟩, ⟨by repeat (first | (with_reducible first | exact HB.out | apply below_alloc | apply pw_below_drewN | apply below_drew1) | exact HB.out)⟩⟩
                      · replace c20 := Bool.eq_false_iff.mpr c20
                        subst c20
                        have H1 : (rosarylaw12_FingerFew.l0 k2 a0 t382 (rd l1 x30_2) true l1 (l1.length : Int) (wrap64 (x30_2 + 1))) = some r := by rw [if_neg (show ¬ (false = true) by decide)] at H; exact H
                        clear H
                        have H := H1
                        clear H1
                        have H' := Aside0.mk H
                        clear H
                        have p385 : 0 ≤ (x30_2 : Int) := of_decide_eq_true (by first | (with_reducible assumption) | assumption)
                        have q385 : x30_2 < (l1.length : Int) := of_decide_eq_true (by first | (with_reducible assumption) | assumption)
                        obtain ⟨ad385, e385, hx385_0⟩ := Kd.at_int HR1.out x30_2 p385 q385
                        cases e385
                        replace hx385_0 := (HB.out.cell (World.block_lt_of_cell? w _ hx385_0)).trans hx385_0
                        replace p385 := eq_true p385
                        replace q385 := eq_true q385
                        go_wp2
                        go_roundg k2
                        case measure => have := HJ2.out; have := HK2.out; omega
                        case rel => exact ⟨(rd l1 x30_2), (true), (wrap64 (x30_2 + 1)), (by first | rfl | (simp; done) | (simp [*]; done)), (by first | rfl | (simp; done) | (simp [*]; done)), (by first | rfl | (simp; done) | (simp [*]; done)), H', ⟨by have := HJ2.out; have := HK2.out; omega⟩, ⟨by (with_reducible repeat (first | apply Kd.R_alloc | apply Kd.R_drewN | apply Kd.R_drew)); exact HO_5.out⟩, ⟨by repeat (first | (with_reducible first | exact HB.out | apply below_alloc | apply pw_below_drewN | apply below_drew1) | exact HB.out)⟩⟩
                  · rw [if_neg c18] at H
                    exact absurd H (by simp)
                · rw [if_neg c17] at H
                  exact absurd H (by simp)
              · rw [if_neg c16] at H
                have c16b0 : decide (x30_2 < (l1.length : Int)) = false := decide_eq_false c16
                clear c16
                have H' := Aside0.mk H
                clear H
                go_wp2
                go_loopg [10, 54] k2 (fun kq v10 v54 w' => ∃ (x10_3 : Bool) (x54_3 : Int), v10 = .bool x10_3 ∧ v54 = .int .i64 x54_3 ∧ Aside0 (rosarylaw12_FingerFew.l1 kq a0 t382 x6_2 x7_2 x10_3 t382 (t382.length : Int) x54_3 = some r) ∧ Aside0 (kq ≤ k2) ∧ Aside0 (Kd.R (Kd.int .u64) 22 w' w.heap.size (fun _ => True) (.slice Ao15 t382.length co15) t382) ∧ Aside0 (Kd.R (Kd.int .u64) 22 w' w.heap.size (fun _ => True) (.slice Ao15 t382.length co15) t382) ∧ Aside0 (Below w.heap.size w w'))
                case atStart => exact ⟨(false), (0), (by first | rfl | (simp; done) | (simp [*]; done)), (by first | rfl | (simp; done) | (simp [*]; done)), H', ⟨Nat.le_refl _⟩, ⟨by (with_reducible repeat (first | apply Kd.R_alloc | apply Kd.R_drewN | apply Kd.R_drew)); exact HO_5.out⟩, ⟨by (with_reducible repeat (first | apply Kd.R_alloc | apply Kd.R_drewN | apply Kd.R_drew)); exact HO_5.out⟩, ⟨by repeat (first | (with_reducible first | exact HB.out | apply below_alloc | apply pw_below_drewN | apply below_drew1) | exact HB.out)⟩⟩
                case round =>
                  clear H'
                  try clear c1
                  try clear c2
                  try clear p2
                  try clear p3
                  try clear q3
                  try clear hx3
                  try clear c4
                  try clear c4b0
                  try clear c4b1
                  try clear c5
                  try clear p6
                  try clear c7
                  try clear c9
                  try clear c11
                  try clear c11b0
                  try clear c11b1
                  try clear c16
                  try clear c16b0
                  try clear c17
                  try clear c17b0
                  try clear c18
                  try clear c18b0
                  try clear c19
                  try clear c19b0
                  try clear c19b1
                  try clear c20
                  try clear c21
                  try clear c21b0
                  try clear hx385_0
                  try clear p2
                  try clear p385
                  try clear q385
                  obtain ⟨x10_3, x54_3, rfl, rfl, HA, HK3, HO_5, HO_52, HB⟩ := hrel
                  cases gk with
                  | zero => exact absurd HA.out (by simp [rosarylaw12_FingerFew.l1])
                  | succ k3 =>
                    have H := HA.out
                    clear HA
                    simp only [rosarylaw12_FingerFew.l1] at H
                    by_cases c22 : x54_3 < (t382.length : Int)
                    · rw [if_pos c22] at H
                      have c22b0 : decide (x54_3 < (t382.length : Int)) = true := decide_eq_true c22
                      clear c22
                      by_cases c23 : 0 ≤ x54_3
                      · rw [if_pos c23] at H
                        have c23b0 : decide (0 ≤ x54_3) = true := decide_eq_true c23
                        clear c23
                        by_cases c24 : x54_3 < (t382.length : Int)
                        · rw [if_pos c24] at H
                          have c24b0 : decide (x54_3 < (t382.length : Int)) = true := decide_eq_true c24
                          clear c24
                          have HC25 := Aside0.mk H
                          clear H
                          have p386 : 0 ≤ (x54_3 : Int) := of_decide_eq_true (by first | (with_reducible assumption) | assumption)
                          have q386 : x54_3 < (t382.length : Int) := of_decide_eq_true (by first | (with_reducible assumption) | assumption)
                          obtain ⟨ad386, e386, hx386_0⟩ := Kd.at_int (Kd.R_reads' HO_52.out).2.2 x54_3 p386 q386
                          cases e386
                          replace p386 := eq_true p386
                          replace q386 := eq_true q386
                          go_upto_region 17 with (fail)
                          go_cut [10] (fun v10 wc => ∃ (kq : Nat) (x10_24 : Bool), v10 = .bool x10_24 ∧ Aside0 (rosarylaw12_FingerFew.j3 kq a0 t382 x6_2 x7_2 x10_24 x54_3 (rd t382 x54_3) t382 (t382.length : Int) x54_3 = some r) ∧ Aside0 (kq ≤ k3) ∧ Aside0 (Kd.R (Kd.int .u64) 22 wc w.heap.size (fun _ => True) (.slice (some ad386) t382.length co15) t382) ∧ Aside0 (Kd.R (Kd.int .u64) 22 wc w.heap.size (fun _ => True) (.slice (some ad386) t382.length co15) t382) ∧ Aside0 (Below w.heap.size w wc))
                          case first =>
                            have H := HC25.out
                            clear HC25
                            by_cases c26 : x10_3 = true
                            · subst c26
                              have H1 : (rosarylaw12_FingerFew.j3 k3 a0 t382 x6_2 x7_2 true x54_3 (rd t382 x54_3) t382 (t382.length : Int) x54_3) = some r := by rw [if_pos rfl] at H; exact H
                              clear H
                              have H := H1
                              clear H1
                              have H' := Aside0.mk H
                              clear H
                              go_wp2
                              go_meet
                              case rel => exact ⟨_, (true), (by first | rfl | (simp; done) | (simp [*]; done)), H', ⟨by have := HJ2.out; have := HK2.out; have := HK3.out; first | omega | exact Nat.le_refl _⟩, ⟨by (with_reducible repeat (first | apply Kd.R_alloc | apply Kd.R_drewN | apply Kd.R_drew)); exact HO_5.out⟩, ⟨by (with_reducible repeat (first | apply Kd.R_alloc | apply Kd.R_drewN | apply Kd.R_drew)); exact HO_52.out⟩, ⟨by repeat (first | (with_reducible first | exact HB.out | apply below_alloc | apply pw_below_drewN | apply below_drew1) | exact HB.out)⟩⟩
                            · replace c26 := Bool.eq_false_iff.mpr c26
                              subst c26
                              have H1 : (rosarylaw12_FingerFew.j3 k3 a0 t382 x6_2 x7_2 ((rd t382 x54_3) == x6_2) x54_3 (rd t382 x54_3) t382 (t382.length : Int) x54_3) = some r := by rw [if_neg (show ¬ (false = true) by decide)] at H; exact H
                              clear H
                              have H := H1
                              clear H1
                              have H' := Aside0.mk H
                              clear H
                              go_wp2
                              go_meet
                              case rel => exact ⟨_, (((rd t382 x54_3) == x6_2)), (by first | rfl | (simp; done) | (simp [*]; done)), H', ⟨by have := HJ2.out; have := HK2.out; have := HK3.out; first | omega | exact Nat.le_refl _⟩, ⟨by (with_reducible repeat (first | apply Kd.R_alloc | apply Kd.R_drewN | apply Kd.R_drew)); exact HO_5.out⟩, ⟨by (with_reducible repeat (first | apply Kd.R_alloc | apply Kd.R_drewN | apply Kd.R_drew)); exact HO_52.out⟩, ⟨by repeat (first | (with_reducible first | exact HB.out | apply below_alloc | apply pw_below_drewN | apply below_drew1) | exact HB.out)⟩⟩
                          case rest =>
                            clear HC25
                            try clear c1
                            try clear c2
                            try clear p2
                            try clear p3
                            try clear q3
                            try clear hx3
                            try clear c4
                            try clear c4b0
                            try clear c4b1
                            try clear c5
                            try clear p6
                            try clear c7
                            try clear c9
                            try clear c11
                            try clear c11b0
                            try clear c11b1
                            try clear c16
                            try clear c16b0
                            try clear c17
                            try clear c17b0
                            try clear c18
                            try clear c18b0
                            try clear c19
                            try clear c19b0
                            try clear c19b1
                            try clear c20
                            try clear c21
                            try clear c21b0
                            try clear c22
                            try clear c22b0
                            try clear c23
                            try clear c23b0
                            try clear c24
                            try clear c24b0
                            try clear c26
                            try clear hx385_0
                            try clear hx386_0
                            try clear p2
                            try clear p3
                            try clear p385
                            try clear p386
                            try clear p6
                            try clear q3
                            try clear q385
                            try clear q386
                            obtain ⟨kq, x10_24, rfl, HA, HJ24, HO_5, HO_52, HB⟩ := hcut
                            cases kq with
                            | zero => exact absurd HA.out (by simp [rosarylaw12_FingerFew.j3])
                            | succ kj24 =>
                              have H := HA.out
                              clear HA
                              simp only [rosarylaw12_FingerFew.j3] at H
                              by_cases c27 : (rd t382 x54_3) = a0
                              · rw [if_pos c27] at H
                                have c27b0 : ((rd t382 x54_3) == a0) = true := beq_iff_eq.mpr c27
                                have c27b1 : ((rd t382 x54_3) != a0) = false := bne_eq_false_iff_eq.mpr c27
                                clear c27
                                obtain rfl := Option.some.inj H
                                go_wp2
                                go_ret
                                exact ⟨by first | rfl | (simp [errW_none, errW_some] <;> rfl) | (simp [*, errW_none, errW_some] <;> rfl), by repeat (first | (with_reducible first | exact HB.out | apply below_alloc | apply pw_below_drewN | apply below_drew1) | exact HB.out)⟩
                              · rw [if_neg c27] at H
                                have c27b0 : ((rd t382 x54_3) == a0) = false := beq_eq_false_iff_ne.mpr c27
                                have c27b1 : ((rd t382 x54_3) != a0) = true := bne_iff_ne.mpr c27
                                have H' := Aside0.mk H
                                clear H
                                go_wp2
                                go_loopg [13] kj24 (fun kq v13 w' => ∃ (x13_5 : Int), v13 = .int .i64 x13_5 ∧ Aside0 (rosarylaw12_FingerFew.l2 kq a0 t382 x6_2 x7_2 x10_24 x54_3 (rd t382 x54_3) x13_5 t382 (t382.length : Int) x54_3 = some r) ∧ Aside0 (kq ≤ kj24) ∧ Aside0 (Kd.R (Kd.int .u64) 22 w' w.heap.size (fun _ => True) (.slice (some ad386) t382.length co15) t382) ∧ Aside0 (Kd.R (Kd.int .u64) 22 w' w.heap.size (fun _ => True) (.slice (some ad386) t382.length co15) t382) ∧ Aside0 (Below w.heap.size w w'))
                                case atStart => exact ⟨(0), (by first | rfl | (simp; done) | (simp [*]; done)), H', ⟨Nat.le_refl _⟩, ⟨by (with_reducible repeat (first | apply Kd.R_alloc | apply Kd.R_drewN | apply Kd.R_drew)); exact HO_5.out⟩, ⟨by (with_reducible repeat (first | apply Kd.R_alloc | apply Kd.R_drewN | apply Kd.R_drew)); exact HO_52.out⟩, ⟨by repeat (first | (with_reducible first | exact HB.out | apply below_alloc | apply pw_below_drewN | apply below_drew1) | exact HB.out)⟩⟩
                                case round =>
                                  clear H'
                                  try clear c1
                                  try clear c2
                                  try clear p2
                                  try clear p3
                                  try clear q3
                                  try clear hx3
                                  try clear c4
                                  try clear c4b0
                                  try clear c4b1
                                  try clear c5
                                  try clear p6
                                  try clear c7
                                  try clear c9
                                  try clear c11
                                  try clear c11b0
                                  try clear c11b1
                                  try clear c16
                                  try clear c16b0
                                  try clear c17
                                  try clear c17b0
                                  try clear c18
                                  try clear c18b0
                                  try clear c19
                                  try clear c19b0
                                  try clear c19b1
                                  try clear c20
                                  try clear c21
                                  try clear c21b0
                                  try clear c22
                                  try clear c22b0
                                  try clear c23
                                  try clear c23b0
                                  try clear c24
                                  try clear c24b0
                                  try clear c26
                                  try clear c27
                                  try clear c27b0
                                  try clear c27b1
                                  try clear hx385_0
                                  try clear hx386_0
                                  try clear p2
                                  try clear p3
                                  try clear p385
                                  try clear p386
                                  try clear p6
                                  try clear q3
                                  try clear q385
                                  try clear q386
                                  obtain ⟨x13_5, rfl, HA, HK5, HO_5, HO_52, HB⟩ := hrel
                                  cases gk with
                                  | zero => exact absurd HA.out (by simp [rosarylaw12_FingerFew.l2])
                                  | succ k5 =>
                                    have H := HA.out
                                    clear HA
                                    simp only [rosarylaw12_FingerFew.l2] at H
                                    by_cases c28 : x13_5 < x54_3
                                    · rw [if_pos c28] at H
                                      have c28b0 : decide (x13_5 < x54_3) = true := decide_eq_true c28
                                      clear c28
                                      by_cases c29 : 0 ≤ x13_5
                                      · rw [if_pos c29] at H
                                        have c29b0 : decide (0 ≤ x13_5) = true := decide_eq_true c29
                                        clear c29
                                        by_cases c30 : x13_5 < (t382.length : Int)
                                        · rw [if_pos c30] at H
                                          have c30b0 : decide (x13_5 < (t382.length : Int)) = true := decide_eq_true c30
                                          clear c30
                                          by_cases c31 : (rd t382 x13_5) = (rd t382 x54_3)
                                          · rw [if_pos c31] at H
                                            have c31b0 : ((rd t382 x13_5) == (rd t382 x54_3)) = true := beq_iff_eq.mpr c31
                                            have c31b1 : ((rd t382 x13_5) != (rd t382 x54_3)) = false := bne_eq_false_iff_eq.mpr c31
                                            clear c31
                                            obtain rfl := Option.some.inj H
                                            have p387 : 0 ≤ (x13_5 : Int) := of_decide_eq_true (by first | (with_reducible assumption) | assumption)
                                            have q387 : x13_5 < (t382.length : Int) := of_decide_eq_true (by first | (with_reducible assumption) | assumption)
                                            obtain ⟨ad387, e387, hx387_0⟩ := Kd.at_int (Kd.R_reads' HO_5.out).2.2 x13_5 p387 q387
                                            obtain rfl : ad386 = ad387 := (by injection e387)
                                            replace p387 := eq_true p387
                                            replace q387 := eq_true q387
                                            go_wp2
                                            go_ret
                                            exact ⟨by first | rfl | (simp [errW_none, errW_some] <;> rfl) | (simp [*, errW_none, errW_some] <;> rfl), by repeat (first | (with_reducible first | exact HB.out | apply below_alloc | apply pw_below_drewN | apply below_drew1) | exact HB.out)⟩
                                          · rw [if_neg c31] at H
                                            have c31b0 : ((rd t382 x13_5) == (rd t382 x54_3)) = false := beq_eq_false_iff_ne.mpr c31
                                            have c31b1 : ((rd t382 x13_5) != (rd t382 x54_3)) = true := bne_iff_ne.mpr c31
                                            have H' := Aside0.mk H
                                            clear H
                                            have p387 : 0 ≤ (x13_5 : Int) := of_decide_eq_true (by first | (with_reducible assumption) | assumption)
                                            have q387 : x13_5 < (t382.length : Int) := of_decide_eq_true (by first | (with_reducible assumption) | assumption)
                                            obtain ⟨ad387, e387, hx387_0⟩ := Kd.at_int (Kd.R_reads' HO_5.out).2.2 x13_5 p387 q387
                                            obtain rfl : ad386 = ad387 := (by injection e387)
                                            replace p387 := eq_true p387
                                            replace q387 := eq_true q387
                                            go_wp2
                                            go_roundg k5
                                            case measure => have := HJ2.out; have := HK2.out; have := HK3.out; have := HJ24.out; have := HK5.out; omega
                                            case rel => exact ⟨(wrap64 (x13_5 + 1)), (by first | rfl | (simp; done) | (simp [*]; done)), H', ⟨by have := HJ2.out; have := HK2.out; have := HK3.out; have := HJ24.out; have := HK5.out; omega⟩, ⟨by (with_reducible repeat (first | apply Kd.R_alloc | apply Kd.R_drewN | apply Kd.R_drew)); exact HO_5.out⟩, ⟨by (with_reducible repeat (first | apply Kd.R_alloc | apply Kd.R_drewN | apply Kd.R_drew)); exact HO_52.out⟩, ⟨by repeat (first | (with_reducible first | exact HB.out | apply below_alloc | apply pw_below_drewN | apply below_drew1) | exact HB.out)⟩⟩
                                        · rw [if_neg c30] at H
                                          exact absurd H (by simp)
                                      · rw [if_neg c29] at H
                                        exact absurd H (by simp)
                                    · rw [if_neg c28] at H
                                      have c28b0 : decide (x13_5 < x54_3) = false := decide_eq_false c28
                                      clear c28
                                      have H' := Aside0.mk H
                                      clear H
                                      go_wp2
                                      go_roundg k5
                                      case measure => have := HJ2.out; have := HK2.out; have := HK3.out; have := HJ24.out; have := HK5.out; omega
                                      case rel => exact ⟨(x10_24), (wrap64 (x54_3 + 1)), (by first | rfl | (simp; done) | (simp [*]; done)), (by first | rfl | (simp; done) | (simp [*]; done)), H', ⟨by have := HJ2.out; have := HK2.out; have := HK3.out; have := HJ24.out; have := HK5.out; omega⟩, ⟨by (with_reducible repeat (first | apply Kd.R_alloc | apply Kd.R_drewN | apply Kd.R_drew)); exact HO_5.out⟩, ⟨by (with_reducible repeat (first | apply Kd.R_alloc | apply Kd.R_drewN | apply Kd.R_drew)); exact HO_52.out⟩, ⟨by repeat (first | (with_reducible first | exact HB.out | apply below_alloc | apply pw_below_drewN | apply below_drew1) | exact HB.out)⟩⟩
                        · rw [if_neg c24] at H
                          exact absurd H (by simp)
                      · rw [if_neg c23] at H
                        exact absurd H (by simp)
                    · rw [if_neg c22] at H
                      have c22b0 : decide (x54_3 < (t382.length : Int)) = false := decide_eq_false c22
                      clear c22
                      by_cases c32 : (x10_3 == x7_2) = true
                      · rw [if_pos c32] at H
                        have c32b0 : (x10_3 == x7_2) = true := c32
                        (try (have c32b1 : decide (x10_3 = x7_2) = true := by simpa using c32))
                        (try (have c32b2 : (x10_3 == x7_2) = true := by simpa using c32))
                        clear c32
                        by_cases c33 : x7_2 = true
                        · subst c33
                          have H1 : (some true) = some r := by rw [if_pos rfl] at H; exact H
                          clear H
                          have H := H1
                          clear H1
                          obtain rfl := Option.some.inj H
                          go_wp2
                          go_ret
                          exact ⟨by first | rfl | (simp [errW_none, errW_some] <;> rfl) | (simp [*, errW_none, errW_some] <;> rfl), by repeat (first | (with_reducible first | exact HB.out | apply below_alloc | apply pw_below_drewN | apply below_drew1) | exact HB.out)⟩
                        · replace c33 := Bool.eq_false_iff.mpr c33
                          subst c33
                          have H1 : (some ((t382.length : Int) == 0)) = some r := by rw [if_neg (show ¬ (false = true) by decide)] at H; exact H
                          clear H
                          have H := H1
                          clear H1
                          obtain rfl := Option.some.inj H
                          go_wp2
                          go_ret
                          exact ⟨by first | rfl | (simp [errW_none, errW_some] <;> rfl) | (simp [*, errW_none, errW_some] <;> rfl), by repeat (first | (with_reducible first | exact HB.out | apply below_alloc | apply pw_below_drewN | apply below_drew1) | exact HB.out)⟩
                      · rw [if_neg c32] at H
                        have c32b0 : (x10_3 == x7_2) = false := by simpa using c32
                        (try (have c32b1 : decide (x10_3 = x7_2) = false := by simpa using c32))
                        (try (have c32b2 : (x10_3 == x7_2) = false := by simpa using c32))
                        (try (have c32b3 : ¬ (x10_3 = x7_2) := by simpa using c32))
                        clear c32
                        obtain rfl := Option.some.inj H
                        go_wp2
                        go_ret
                        exact ⟨by first | rfl | (simp [errW_none, errW_some] <;> rfl) | (simp [*, errW_none, errW_some] <;> rfl), by repeat (first | (with_reducible first | exact HB.out | apply below_alloc | apply pw_below_drewN | apply below_drew1) | exact HB.out)⟩

/-- THE ONE PURE STATEMENT of rosarylaw12_FingerFew: yours. -/
def rosarylaw12_FingerFew.Pure : Prop := ∀ (a0 : Int) (l1 : List Int), (Lit.int .u64 a0).wf = true → l1.length ≤ maxLen → l1.length * 8 ≤ 140737488351232 → (∀ x ∈ l1, (Lit.int .u64 x).wf = true) → ∃ k, rosarylaw12_FingerFew.f k a0 l1 = some true
theorem rosarylaw12_FingerFew.walk (P : rosarylaw12_FingerFew.Pure) (a0 : Int) (a1 : Option Addr) (len1 cap1 : Nat) (z1 : List Int) (w : World) (w0 : (Lit.int .u64 a0).wf = true) (w1 : (a1 = none ∧ len1 = 0 ∧ cap1 = 0 ∧ z1 = []) ∨ ∃ x, a1 = some x ∧ len1 ≤ cap1 ∧ cap1 ≤ maxLen ∧ z1.length = cap1 ∧ (∀ i, i < z1.length → w.cell? (x.add i) = some (.int .u64 (z1.getD i 0))) ∧ ∀ n ∈ z1, (Lit.int .u64 n).wf = true) (y1 : len1 * 8 ≤ 140737488351232) :
    Calls Try.prog 5 #[.int .u64 a0, .slice a1 len1 cap1] w fun e w' => e = .returned (.bool true) ∧ Below w.heap.size w w' := by
  obtain ⟨l1, rfl, hr1, hm1, hw1, hc1⟩ := ReadsInt.ofRowC w1
  obtain ⟨k, h⟩ := P a0 l1 w0 hm1 y1 hw1
  refine (rosarylaw12_FingerFew.calls k a0 _ _ l1 true w (Kd.C_of_reads (d := (0 : Int)) (h1 := fun _ => rfl) hr1) hc1 h).mono ?_
  rintro e w' ⟨rfl, hd⟩
  exact ⟨rfl, hd⟩

end Go.Proofs.Ytfkhdfnjlegnhaa.P
