-- Printed by this session's program wip/lprint.py (a changed copy of the kit's print), out of the translation. Not trusted: Lean checks it.
import Derived.Test.YtfkhdfnjlegnhaaPx0
import Derived.Test.YtfkhdfnjlegnhaaPx6
namespace Go.Proofs.Ytfkhdfnjlegnhaa.P
open Go.RowKit Go.Proofs.YtfkhdfnjlegnhaaW.PrintWords Go.Proofs.YtfkhdfnjlegnhaaW.PrintLast Go.Proofs.YtfkhdfnjlegnhaaW.PrintMore
attribute [local go_sem] max2_int min2_int max_two min_two max_three min_three max_four min_four   -- for this text's walks alone
set_option linter.unusedVariables false
set_option linter.unusedSimpArgs false

/-! ### rosarylaw12_FingerRounds: function 8 -/
mutual
def rosarylaw12_FingerRounds.j0 : Nat → Int → List Int → Bool → Option (Bool)
  | 0, _, _, _ => none
  | k + 1, x0, x1, x22 => if x22 = true then ((rosarylaw12_alive.f k).bind fun t414 => (some t414)) else (rosarylaw12_FingerRounds.l0 k x0 x1 0 true x1 (x1.length : Int) 0)
def rosarylaw12_FingerRounds.l0 : Nat → Int → List Int → Int → Bool → List Int → Int → Int → Option (Bool)
  | 0, _, _, _, _, _, _, _ => none
  | k + 1, x0, x1, x5, x6, x24, x25, x26 => if x26 < x25 then (if 0 ≤ x26 then (if x26 < (x24.length : Int) then ((finger_Way.f k (rd x24 x26) x0 x1).bind fun bt416 => (if bt416.2 = true then (rosarylaw12_FingerRounds.j2 k x0 x1 x5 x6 bt416.1 x24 x25 x26 (decide ((bt416.1.length : Int) < 1))) else (rosarylaw12_FingerRounds.j2 k x0 x1 x5 x6 bt416.1 x24 x25 x26 true))) else (none)) else (none)) else (some true)
def rosarylaw12_FingerRounds.j2 : Nat → Int → List Int → Int → Bool → List Int → List Int → Int → Int → Bool → Option (Bool)
  | 0, _, _, _, _, _, _, _, _, _ => none
  | k + 1, x0, x1, x5, x6, x9, x24, x25, x26, x43 => if x43 = true then (some false) else (if x6 = true then (if 0 ≤ (wrap64 ((x9.length : Int) - 1)) then (if (wrap64 ((x9.length : Int) - 1)) < (x9.length : Int) then (rosarylaw12_FingerRounds.l0 k x0 x1 (rd x9 (wrap64 ((x9.length : Int) - 1))) false x24 x25 (wrap64 (x26 + 1))) else (none)) else (none)) else (if 0 ≤ (wrap64 ((x9.length : Int) - 1)) then (if (wrap64 ((x9.length : Int) - 1)) < (x9.length : Int) then (if (rd x9 (wrap64 ((x9.length : Int) - 1))) = x5 then (rosarylaw12_FingerRounds.l0 k x0 x1 (rd x9 (wrap64 ((x9.length : Int) - 1))) false x24 x25 (wrap64 (x26 + 1))) else (some false)) else (none)) else (none)))
end
def rosarylaw12_FingerRounds.f (k : Nat) (a0 : Int) (l1 : List Int) : Option (Bool) := if (l1.length : Int) < 1 then (rosarylaw12_FingerRounds.j0 k a0 l1 true) else (if (l1.length : Int) > 20 then (rosarylaw12_FingerRounds.j0 k a0 l1 true) else ((rosarylaw12_alive.f k).bind fun t413 => (rosarylaw12_FingerRounds.j0 k a0 l1 (!t413))))
theorem rosarylaw12_FingerRounds.mono_l : ∀ k, (∀ y0 y1 y2, LeO (rosarylaw12_FingerRounds.j0 k y0 y1 y2) (rosarylaw12_FingerRounds.j0 (k + 1) y0 y1 y2)) ∧ (∀ y0 y1 y2 y3 y4 y5 y6, LeO (rosarylaw12_FingerRounds.l0 k y0 y1 y2 y3 y4 y5 y6) (rosarylaw12_FingerRounds.l0 (k + 1) y0 y1 y2 y3 y4 y5 y6)) ∧ (∀ y0 y1 y2 y3 y4 y5 y6 y7 y8, LeO (rosarylaw12_FingerRounds.j2 k y0 y1 y2 y3 y4 y5 y6 y7 y8) (rosarylaw12_FingerRounds.j2 (k + 1) y0 y1 y2 y3 y4 y5 y6 y7 y8))
  | 0 => ⟨fun _ _ _ r h => by simp [rosarylaw12_FingerRounds.j0] at h, fun _ _ _ _ _ _ _ r h => by simp [rosarylaw12_FingerRounds.l0] at h, fun _ _ _ _ _ _ _ _ _ r h => by simp [rosarylaw12_FingerRounds.j2] at h⟩
  | k + 1 => by
    obtain ⟨ih0, ih1, ih2⟩ := rosarylaw12_FingerRounds.mono_l k
    refine ⟨?_, ?_, ?_⟩
    · intro y0 y1 y2
      unfold rosarylaw12_FingerRounds.j0
      repeat' first
      | (with_reducible exact ih0 _ _ _)
      | (with_reducible exact ih1 _ _ _ _ _ _ _)
      | (with_reducible exact ih2 _ _ _ _ _ _ _ _ _)
      | (with_reducible exact finger_Way.mono _ _ _ _)
      | (with_reducible exact rosarylaw12_alive.mono _)
      | (with_reducible exact LeO.refl _)
      | (with_reducible exact LeO.none _)
      | (with_reducible refine LeO.ite ?_ ?_)
      | (with_reducible refine LeO.bind ?_ (fun _ => ?_))
      | exact ih0 _ _ _
      | exact ih1 _ _ _ _ _ _ _
      | exact ih2 _ _ _ _ _ _ _ _ _
      | exact finger_Way.mono _ _ _ _
      | exact rosarylaw12_alive.mono _
      | exact LeO.none _
      | refine LeO.ite ?_ ?_
      | refine LeO.bind ?_ (fun _ => ?_)
    · intro y0 y1 y2 y3 y4 y5 y6
      unfold rosarylaw12_FingerRounds.l0
      repeat' first
      | (with_reducible exact ih0 _ _ _)
      | (with_reducible exact ih1 _ _ _ _ _ _ _)
      | (with_reducible exact ih2 _ _ _ _ _ _ _ _ _)
      | (with_reducible exact finger_Way.mono _ _ _ _)
      | (with_reducible exact rosarylaw12_alive.mono _)
      | (with_reducible exact LeO.refl _)
      | (with_reducible exact LeO.none _)
      | (with_reducible refine LeO.ite ?_ ?_)
      | (with_reducible refine LeO.bind ?_ (fun _ => ?_))
      | exact ih0 _ _ _
      | exact ih1 _ _ _ _ _ _ _
      | exact ih2 _ _ _ _ _ _ _ _ _
      | exact finger_Way.mono _ _ _ _
      | exact rosarylaw12_alive.mono _
      | exact LeO.none _
      | refine LeO.ite ?_ ?_
      | refine LeO.bind ?_ (fun _ => ?_)
    · intro y0 y1 y2 y3 y4 y5 y6 y7 y8
      unfold rosarylaw12_FingerRounds.j2
      repeat' first
      | (with_reducible exact ih0 _ _ _)
      | (with_reducible exact ih1 _ _ _ _ _ _ _)
      | (with_reducible exact ih2 _ _ _ _ _ _ _ _ _)
      | (with_reducible exact finger_Way.mono _ _ _ _)
      | (with_reducible exact rosarylaw12_alive.mono _)
      | (with_reducible exact LeO.refl _)
      | (with_reducible exact LeO.none _)
      | (with_reducible refine LeO.ite ?_ ?_)
      | (with_reducible refine LeO.bind ?_ (fun _ => ?_))
      | exact ih0 _ _ _
      | exact ih1 _ _ _ _ _ _ _
      | exact ih2 _ _ _ _ _ _ _ _ _
      | exact finger_Way.mono _ _ _ _
      | exact rosarylaw12_alive.mono _
      | exact LeO.none _
      | refine LeO.ite ?_ ?_
      | refine LeO.bind ?_ (fun _ => ?_)
theorem rosarylaw12_FingerRounds.mono : ∀ a0 a1 k, LeO (rosarylaw12_FingerRounds.f k a0 a1) (rosarylaw12_FingerRounds.f (k + 1) a0 a1) := by
  intro a0 a1 k
  obtain ⟨ih0, ih1, ih2⟩ := rosarylaw12_FingerRounds.mono_l k
  unfold rosarylaw12_FingerRounds.f
  repeat' first
      | (with_reducible exact ih0 _ _ _)
      | (with_reducible exact ih1 _ _ _ _ _ _ _)
      | (with_reducible exact ih2 _ _ _ _ _ _ _ _ _)
      | (with_reducible exact finger_Way.mono _ _ _ _)
      | (with_reducible exact rosarylaw12_alive.mono _)
      | (with_reducible exact LeO.refl _)
      | (with_reducible exact LeO.none _)
      | (with_reducible refine LeO.ite ?_ ?_)
      | (with_reducible refine LeO.bind ?_ (fun _ => ?_))
      | exact ih0 _ _ _
      | exact ih1 _ _ _ _ _ _ _
      | exact ih2 _ _ _ _ _ _ _ _ _
      | exact finger_Way.mono _ _ _ _
      | exact rosarylaw12_alive.mono _
      | exact LeO.none _
      | refine LeO.ite ?_ ?_
      | refine LeO.bind ?_ (fun _ => ?_)
set_option maxHeartbeats 8000000 in
set_option maxRecDepth 100000 in
theorem rosarylaw12_FingerRounds.calls (k : Nat) (a0 : Int) (A1 : Option Addr) (c1 : Nat) (l1 : List Int) (r : Bool) (w : World) (hr1 : Kd.C (Kd.int .u64) w A1 l1.length l1) (hc1 : l1.length ≤ c1) (h : rosarylaw12_FingerRounds.f k a0 l1 = some r) :
    Calls Try.prog 8 #[.int .u64 a0, .slice A1 l1.length c1] w fun e w' => e = .returned (.bool r) ∧ Below w.heap.size w w' := by
  have HR1 := Aside0.mk hr1
  have HC1 := Aside0.mk hc1
  clear hr1 hc1
  have HB := Aside0.mk (Below.refl w.heap.size w)
  have H : (if (l1.length : Int) < 1 then (rosarylaw12_FingerRounds.j0 k a0 l1 true) else (if (l1.length : Int) > 20 then (rosarylaw12_FingerRounds.j0 k a0 l1 true) else ((rosarylaw12_alive.f k).bind fun t413 => (rosarylaw12_FingerRounds.j0 k a0 l1 (!t413))))) = some r := h
  clear h
  have HC3 := Aside0.mk H
  clear H
  go_enter Try.func8, Try.ntmps8
  go_upto_region 1 with (fail)
  go_cut [22] (fun v22 wc => ∃ (kq : Nat) (x22_2 : Bool), v22 = .bool x22_2 ∧ Aside0 (rosarylaw12_FingerRounds.j0 kq a0 l1 x22_2 = some r) ∧ Aside0 (kq ≤ k) ∧ Aside0 (Below w.heap.size w wc))
  case first =>
    have H := HC3.out
    clear HC3
    by_cases c4 : (l1.length : Int) < 1
    · rw [if_pos c4] at H
      have c4b0 : decide ((l1.length : Int) < 1) = true := decide_eq_true c4
      have c4b1 : decide (l1.length < 1) = true := decide_eq_true (by omega)
      clear c4
      (first | rw [c4b0] | (simp only [i64_w, i32_w]; rw [c4b0]) | skip)
      have H' := Aside0.mk H
      clear H
      go_wp2
      go_meet
      case rel => exact ⟨_, (true), (by first | rfl | (simp; done) | (simp [*]; done)), H', ⟨by first | omega | exact Nat.le_refl _⟩, ⟨by repeat (first | (with_reducible first | exact HB.out | apply below_alloc | apply pw_below_drewN | apply below_drew1) | exact HB.out)⟩⟩
    · rw [if_neg c4] at H
      have c4b0 : decide ((l1.length : Int) < 1) = false := decide_eq_false c4
      have c4b1 : decide (l1.length < 1) = false := decide_eq_false (by omega)
      clear c4
      (first | rw [c4b0] | (simp only [i64_w, i32_w]; rw [c4b0]) | skip)
      by_cases c5 : (l1.length : Int) > 20
      · rw [if_pos c5] at H
        have c5b0 : decide (20 < (l1.length : Int)) = true := decide_eq_true c5
        have c5b1 : decide (20 < l1.length) = true := decide_eq_true (by omega)
        clear c5
        have H' := Aside0.mk H
        clear H
        go_wp2
        go_meet
        case rel => exact ⟨_, (true), (by first | rfl | (simp; done) | (simp [*]; done)), H', ⟨by first | omega | exact Nat.le_refl _⟩, ⟨by repeat (first | (with_reducible first | exact HB.out | apply below_alloc | apply pw_below_drewN | apply below_drew1) | exact HB.out)⟩⟩
      · rw [if_neg c5] at H
        have c5b0 : decide (20 < (l1.length : Int)) = false := decide_eq_false c5
        have c5b1 : decide (20 < l1.length) = false := decide_eq_false (by omega)
        clear c5
        replace H := Option.bind_eq_some_iff.mp H
        obtain ⟨t413, A60, H⟩ := H
        replace H : (rosarylaw12_FingerRounds.j0 k a0 l1 (!t413)) = some r := H
        have A6 := Aside0.mk A60
        clear A60
        have H' := Aside0.mk H
        clear H
        go_wp2_with (first | (go_at_call 9; (with_reducible refine (rosarylaw12_alive.calls k  t413 _ A6.out).mono ?_); rintro e w7 ⟨rfl, hb⟩; have n0_ := Aside0.mk (below_step (by repeat (first | (with_reducible first | exact HB.out | apply below_alloc | apply pw_below_drewN | apply below_drew1) | exact HB.out)) hb); clear HB; have HB := n0_; clear n0_; (try clear hb); (try clear hb2); (try clear hk); (try clear hi)))
        go_meet
        case rel => exact ⟨_, (!t413), (by first | rfl | (simp; done) | (simp [*]; done)), H', ⟨by first | omega | exact Nat.le_refl _⟩, ⟨by repeat (first | (with_reducible first | exact HB.out | apply below_alloc | apply pw_below_drewN | apply below_drew1) | exact HB.out)⟩⟩
  case rest =>
    clear HC3
    try clear c1
    try clear p2
    try clear c4
    try clear c4b0
    try clear c4b1
    try clear c5
    try clear c5b0
    try clear c5b1
    obtain ⟨kq, x22_2, rfl, HA, HJ2, HB⟩ := hcut
    cases kq with
    | zero => exact absurd HA.out (by simp [rosarylaw12_FingerRounds.j0])
    | succ kj2 =>
      have H := HA.out
      clear HA
      simp only [rosarylaw12_FingerRounds.j0] at H
      by_cases c8 : x22_2 = true
      · subst c8
        have H1 : ((rosarylaw12_alive.f kj2).bind fun t414 => (some t414)) = some r := by rw [if_pos rfl] at H; exact H
        clear H
        have H := H1
        clear H1
        replace H := Option.bind_eq_some_iff.mp H
        obtain ⟨t414, A90, H⟩ := H
        replace H : (some t414) = some r := H
        have A9 := Aside0.mk A90
        clear A90
        obtain rfl := Option.some.inj H
        go_wp2_with (first | ((with_reducible refine gate_callee (f := 9) rfl ?_); refine goesL_ (some 23) rfl rfl Try.func9 (by kernel_rfl) rfl #[] rfl (by (try simp only [List.map_toArray, List.map_cons, List.map_nil]); first | done | rfl | (simp only [List.length_drop, List.length_take]; rfl)) ?_; (with_reducible refine (rosarylaw12_alive.calls kj2  t414 _ A9.out).mono ?_); rintro e w10 ⟨rfl, hb⟩; refine ⟨_, rfl, ?_⟩; have n0_ := Aside0.mk (below_step (by repeat (first | (with_reducible first | exact HB.out | apply below_alloc | apply pw_below_drewN | apply below_drew1) | exact HB.out)) hb); clear HB; have HB := n0_; clear n0_; (try clear hb); (try clear hb2); (try clear hk); (try clear hi)))
        go_ret
        exact ⟨by first | rfl | (simp [errW_none, errW_some] <;> rfl) | (simp [*, errW_none, errW_some] <;> rfl), by repeat (first | (with_reducible first | exact HB.out | apply below_alloc | apply pw_below_drewN | apply below_drew1) | exact HB.out)⟩
      · replace c8 := Bool.eq_false_iff.mpr c8
        subst c8
        have H1 : (rosarylaw12_FingerRounds.l0 kj2 a0 l1 0 true l1 (l1.length : Int) 0) = some r := by rw [if_neg (show ¬ (false = true) by decide)] at H; exact H
        clear H
        have H := H1
        clear H1
        have H' := Aside0.mk H
        clear H
        go_wp2
        go_loopg [5, 6, 26] kj2 (fun kq v5 v6 v26 w' => ∃ (x5_2 : Int) (x6_2 : Bool) (x26_2 : Int), v5 = .int .u64 x5_2 ∧ v6 = .bool x6_2 ∧ v26 = .int .i64 x26_2 ∧ Aside0 (rosarylaw12_FingerRounds.l0 kq a0 l1 x5_2 x6_2 l1 (l1.length : Int) x26_2 = some r) ∧ Aside0 (kq ≤ kj2) ∧ Aside0 (Below w.heap.size w w'))
        case atStart => exact ⟨(0), (true), (0), (by first | rfl | (simp; done) | (simp [*]; done)), (by first | rfl | (simp; done) | (simp [*]; done)), (by first | rfl | (simp; done) | (simp [*]; done)), H', ⟨Nat.le_refl _⟩, ⟨by repeat (first | (with_reducible first | exact HB.out | apply below_alloc | apply pw_below_drewN | apply below_drew1) | exact HB.out)⟩⟩
        case round =>
          clear H'
          try clear c1
          try clear p2
          try clear c4
          try clear c4b0
          try clear c4b1
          try clear c5
          try clear c5b0
          try clear c5b1
          try clear c8
          try clear c9
          try clear p2
          obtain ⟨x5_2, x6_2, x26_2, rfl, rfl, rfl, HA, HK2, HB⟩ := hrel
          cases gk with
          | zero => exact absurd HA.out (by simp [rosarylaw12_FingerRounds.l0])
          | succ k2 =>
            have H := HA.out
            clear HA
            simp only [rosarylaw12_FingerRounds.l0] at H
            by_cases c11 : x26_2 < (l1.length : Int)
            · rw [if_pos c11] at H
              have c11b0 : decide (x26_2 < (l1.length : Int)) = true := decide_eq_true c11
              clear c11
              by_cases c12 : 0 ≤ x26_2
              · rw [if_pos c12] at H
                have c12b0 : decide (0 ≤ x26_2) = true := decide_eq_true c12
                clear c12
                by_cases c13 : x26_2 < (l1.length : Int)
                · rw [if_pos c13] at H
                  have c13b0 : decide (x26_2 < (l1.length : Int)) = true := decide_eq_true c13
                  clear c13
                  replace H := Option.bind_eq_some_iff.mp H
                  obtain ⟨⟨t416, t417⟩, A140, H⟩ := H
                  replace H : (if t417 = true then (rosarylaw12_FingerRounds.j2 k2 a0 l1 x5_2 x6_2 t416 l1 (l1.length : Int) x26_2 (decide ((t416.length : Int) < 1))) else (rosarylaw12_FingerRounds.j2 k2 a0 l1 x5_2 x6_2 t416 l1 (l1.length : Int) x26_2 true)) = some r := H
                  have A14 := Aside0.mk A140
                  clear A140
                  have HC15 := Aside0.mk H
                  clear H
                  have p415 : 0 ≤ (x26_2 : Int) := of_decide_eq_true (by first | (with_reducible assumption) | assumption)
                  have q415 : x26_2 < (l1.length : Int) := of_decide_eq_true (by first | (with_reducible assumption) | assumption)
                  obtain ⟨ad415, e415, hx415_0⟩ := Kd.at_int HR1.out x26_2 p415 q415
                  cases e415
                  replace hx415_0 := (HB.out.cell (World.block_lt_of_cell? w _ hx415_0)).trans hx415_0
                  replace p415 := eq_true p415
                  replace q415 := eq_true q415
                  go_upto_region 8 with (first | ((with_reducible refine gate_callee (f := 12) rfl ?_); refine goesL_ (some 34) rfl rfl Try.func12 (by kernel_rfl) rfl #[.int .u64 (rd l1 x26_2), .int .u64 a0, .slice (some ad415) l1.length c1] rfl (by (try simp only [List.map_toArray, List.map_cons, List.map_nil]); first | done | rfl | (simp only [List.length_drop, List.length_take]; rfl)) ?_; (with_reducible refine (finger_Way.calls k2 (rd l1 x26_2) a0 _ _ l1 t416 t417 _ ?side1 ?side2 A14.out).mono ?_); (case side1 => repeat (first | exact (Kd.C_below HR1.out HB.out) | (with_reducible refine Kd.C_alloc ?_ _) | (with_reducible refine Kd.C_drewN ?_ _) | (with_reducible refine Kd.C_drew ?_))); (case side2 => exact HC1.out); rintro e w16 ⟨v418, rfl, ho0, hb⟩; refine ⟨_, rfl, ?_⟩; have n0_ := Aside0.mk (Kd.R_lower ho0 (below_size (by repeat (first | (with_reducible first | exact HB.out | apply below_alloc | apply pw_below_drewN | apply below_drew1) | exact HB.out)))); have n1_ := Aside0.mk (below_step (by repeat (first | (with_reducible first | exact HB.out | apply below_alloc | apply pw_below_drewN | apply below_drew1) | exact HB.out)) hb); clear HB; have HO419 := n0_; have HB := n1_; clear n0_ n1_; (try clear hb); (try clear hb2); (try clear hk); (try clear hi); (try clear ho0)))
                  (try simp only [Act.put, List.setIfInBounds_toArray, List.set_cons_zero, List.set_cons_succ])
                  go_cut [43] (fun v43 wc => ∃ (kq : Nat) (x43_14 : Bool), v43 = .bool x43_14 ∧ Aside0 (rosarylaw12_FingerRounds.j2 kq a0 l1 x5_2 x6_2 t416 l1 (l1.length : Int) x26_2 x43_14 = some r) ∧ Aside0 (kq ≤ k2) ∧ Aside0 (Kd.R (Kd.int .u64) 22 wc w.heap.size (fun _ => True) v418 t416) ∧ Aside0 (Below w.heap.size w wc))
                  case first =>
                    have H := HC15.out
                    clear HC15
                    by_cases c17 : t417 = true
                    · subst c17
                      have H1 : (rosarylaw12_FingerRounds.j2 k2 a0 l1 x5_2 x6_2 t416 l1 (l1.length : Int) x26_2 (decide ((t416.length : Int) < 1))) = some r := by rw [if_pos rfl] at H; exact H
                      clear H
                      have H := H1
                      clear H1
                      have H' := Aside0.mk H
                      clear H
                      obtain ⟨Ao18, co18, eo18⟩ := Kd.R_slice HO419.out
                      subst eo18
                      go_wp2
                      go_meet
                      case rel => exact ⟨_, (decide ((t416.length : Int) < 1)), (by first | rfl | (simp; done) | (simp [*]; done)), H', ⟨by have := HJ2.out; have := HK2.out; first | omega | exact Nat.le_refl _⟩, ⟨by (with_reducible repeat (first | apply Kd.R_alloc | apply Kd.R_drewN | apply Kd.R_drew)); exact HO419.out⟩, ⟨by repeat (first | (with_reducible first | exact HB.out | apply below_alloc | apply pw_below_drewN | apply below_drew1) | exact HB.out)⟩⟩
                    · replace c17 := Bool.eq_false_iff.mpr c17
                      subst c17
                      have H1 : (rosarylaw12_FingerRounds.j2 k2 a0 l1 x5_2 x6_2 t416 l1 (l1.length : Int) x26_2 true) = some r := by rw [if_neg (show ¬ (false = true) by decide)] at H; exact H
                      clear H
                      have H := H1
                      clear H1
                      have H' := Aside0.mk H
                      clear H
                      go_wp2
                      go_meet
                      case rel => exact ⟨_, (true), (by first | rfl | (simp; done) | (simp [*]; done)), H', ⟨by have := HJ2.out; have := HK2.out; first | omega | exact Nat.le_refl _⟩, ⟨by (with_reducible repeat (first | apply Kd.R_alloc | apply Kd.R_drewN | apply Kd.R_drew)); exact HO419.out⟩, ⟨by repeat (first | (with_reducible first | exact HB.out | apply below_alloc | apply pw_below_drewN | apply below_drew1) | exact HB.out)⟩⟩
                  case rest =>
                    clear HC15
                    try clear c1
                    try clear p2
                    try clear c4
                    try clear c4b0
                    try clear c4b1
                    try clear p4
                    try clear q4
                    try clear hx4
                    try clear c5
                    try clear c5b0
                    try clear c5b1
                    try clear c8
                    try clear c9
                    try clear c11
                    try clear c11b0
                    try clear c12
                    try clear c12b0
                    try clear c13
                    try clear c13b0
                    try clear c17
                    try clear hx415_0
                    try clear p2
                    try clear p415
                    try clear q415
                    obtain ⟨kq, x43_14, rfl, HA, HJ14, HO_9, HB⟩ := hcut
                    cases kq with
                    | zero => exact absurd HA.out (by simp [rosarylaw12_FingerRounds.j2])
                    | succ kj14 =>
                      have H := HA.out
                      clear HA
                      simp only [rosarylaw12_FingerRounds.j2] at H
                      by_cases c19 : x43_14 = true
                      · subst c19
                        have H1 : (some false) = some r := by rw [if_pos rfl] at H; exact H
                        clear H
                        have H := H1
                        clear H1
                        obtain rfl := Option.some.inj H
                        go_wp2
                        go_ret
                        exact ⟨by first | rfl | (simp [errW_none, errW_some] <;> rfl) | (simp [*, errW_none, errW_some] <;> rfl), by repeat (first | (with_reducible first | exact HB.out | apply below_alloc | apply pw_below_drewN | apply below_drew1) | exact HB.out)⟩
                      · replace c19 := Bool.eq_false_iff.mpr c19
                        subst c19
                        have H1 : (if x6_2 = true then (if 0 ≤ (wrap64 ((t416.length : Int) - 1)) then (if (wrap64 ((t416.length : Int) - 1)) < (t416.length : Int) then (rosarylaw12_FingerRounds.l0 kj14 a0 l1 (rd t416 (wrap64 ((t416.length : Int) - 1))) false l1 (l1.length : Int) (wrap64 (x26_2 + 1))) else (none)) else (none)) else (if 0 ≤ (wrap64 ((t416.length : Int) - 1)) then (if (wrap64 ((t416.length : Int) - 1)) < (t416.length : Int) then (if (rd t416 (wrap64 ((t416.length : Int) - 1))) = x5_2 then (rosarylaw12_FingerRounds.l0 kj14 a0 l1 (rd t416 (wrap64 ((t416.length : Int) - 1))) false l1 (l1.length : Int) (wrap64 (x26_2 + 1))) else (some false)) else (none)) else (none))) = some r := by rw [if_neg (show ¬ (false = true) by decide)] at H; exact H
                        clear H
                        have H := H1
                        clear H1
                        by_cases c20 : x6_2 = true
                        · subst c20
                          have H1 : (if 0 ≤ (wrap64 ((t416.length : Int) - 1)) then (if (wrap64 ((t416.length : Int) - 1)) < (t416.length : Int) then (rosarylaw12_FingerRounds.l0 kj14 a0 l1 (rd t416 (wrap64 ((t416.length : Int) - 1))) false l1 (l1.length : Int) (wrap64 (x26_2 + 1))) else (none)) else (none)) = some r := by rw [if_pos rfl] at H; exact H
                          clear H
                          have H := H1
                          clear H1
                          obtain ⟨ji21, hji21⟩ : ∃ j_ : Int, (wrap64 ((t416.length : Int) - 1)) = j_ := ⟨_, rfl⟩
                          replace H : (if 0 ≤ (ji21) then (if (ji21) < (t416.length : Int) then (rosarylaw12_FingerRounds.l0 kj14 a0 l1 (rd t416 (ji21)) false l1 (l1.length : Int) (wrap64 (x26_2 + 1))) else (none)) else (none)) = some r := by first | (rw [hji21] at H; exact H) | (simp only [hji21] at H ⊢; exact H)
                          have hji21w : (IntKind.i64.wrap ((t416.length : Int) - 1)) = ji21 := (i64_w _).trans hji21
                          by_cases c22 : 0 ≤ (ji21)
                          · rw [if_pos c22] at H
                            have c22b0 : decide (0 ≤ (ji21)) = true := decide_eq_true c22
                            clear c22
                            by_cases c23 : (ji21) < (t416.length : Int)
                            · rw [if_pos c23] at H
                              have c23b0 : decide ((ji21) < (t416.length : Int)) = true := decide_eq_true c23
                              clear c23
                              have H' := Aside0.mk H
                              clear H
                              obtain ⟨Ao24, co24, eo24⟩ := Kd.R_slice HO_9.out
                              subst eo24
                              have p420 : 0 ≤ ((ji21) : Int) := of_decide_eq_true (by first | (with_reducible assumption) | assumption)
                              have q420 : (ji21) < (t416.length : Int) := of_decide_eq_true (by first | (with_reducible assumption) | assumption)
                              obtain ⟨ad420, e420, hx420_0⟩ := Kd.at_int (Kd.R_reads' HO_9.out).2.2 (ji21) p420 q420
                              cases e420
                              replace p420 := eq_true p420
                              replace q420 := eq_true q420
                              go_wp2
                              (try rw [← hji21])
                              go_roundg kj14
                              case measure => have := HJ2.out; have := HK2.out; have := HJ14.out; omega
                              case rel => exact ⟨(rd t416 (ji21)), (false), (wrap64 (x26_2 + 1)), (by first | rfl | (simp; done) | (simp only [← hji21] <;> (first | rfl | simp)) | (simp [*]; done)), (by first | rfl | (simp; done) | (simp [*]; done)), (by first | rfl | (simp; done) | (simp [*]; done)), H', ⟨by have := HJ2.out; have := HK2.out; have := HJ14.out; omega⟩, ⟨by repeat (first | (with_reducible first | exact HB.out | apply below_alloc | apply pw_below_drewN | apply below_drew1) | exact HB.out)⟩⟩
                            · rw [if_neg c23] at H
                              exact absurd H (by simp)
                          · rw [if_neg c22] at H
                            exact absurd H (by simp)
                        · replace c20 := Bool.eq_false_iff.mpr c20
                          subst c20
                          have H1 : (if 0 ≤ (wrap64 ((t416.length : Int) - 1)) then (if (wrap64 ((t416.length : Int) - 1)) < (t416.length : Int) then (if (rd t416 (wrap64 ((t416.length : Int) - 1))) = x5_2 then (rosarylaw12_FingerRounds.l0 kj14 a0 l1 (rd t416 (wrap64 ((t416.length : Int) - 1))) false l1 (l1.length : Int) (wrap64 (x26_2 + 1))) else (some false)) else (none)) else (none)) = some r := by rw [if_neg (show ¬ (false = true) by decide)] at H; exact H
                          clear H
                          have H := H1
                          clear H1
                          obtain ⟨ji25, hji25⟩ : ∃ j_ : Int, (wrap64 ((t416.length : Int) - 1)) = j_ := ⟨_, rfl⟩
                          replace H : (if 0 ≤ (ji25) then (if (ji25) < (t416.length : Int) then (if (rd t416 (ji25)) = x5_2 then (rosarylaw12_FingerRounds.l0 kj14 a0 l1 (rd t416 (ji25)) false l1 (l1.length : Int) (wrap64 (x26_2 + 1))) else (some false)) else (none)) else (none)) = some r := by first | (rw [hji25] at H; exact H) | (simp only [hji25] at H ⊢; exact H)
                          have hji25w : (IntKind.i64.wrap ((t416.length : Int) - 1)) = ji25 := (i64_w _).trans hji25
                          by_cases c26 : 0 ≤ (ji25)
                          · rw [if_pos c26] at H
                            have c26b0 : decide (0 ≤ (ji25)) = true := decide_eq_true c26
                            clear c26
                            by_cases c27 : (ji25) < (t416.length : Int)
                            · rw [if_pos c27] at H
                              have c27b0 : decide ((ji25) < (t416.length : Int)) = true := decide_eq_true c27
                              clear c27
                              by_cases c28 : (rd t416 (ji25)) = x5_2
                              · rw [if_pos c28] at H
                                have c28b0 : ((rd t416 (ji25)) == x5_2) = true := beq_iff_eq.mpr c28
                                have c28b1 : ((rd t416 (ji25)) != x5_2) = false := bne_eq_false_iff_eq.mpr c28
                                clear c28
                                have H' := Aside0.mk H
                                clear H
                                obtain ⟨Ao29, co29, eo29⟩ := Kd.R_slice HO_9.out
                                subst eo29
                                have p421 : 0 ≤ ((ji25) : Int) := of_decide_eq_true (by first | (with_reducible assumption) | assumption)
                                have q421 : (ji25) < (t416.length : Int) := of_decide_eq_true (by first | (with_reducible assumption) | assumption)
                                obtain ⟨ad421, e421, hx421_0⟩ := Kd.at_int (Kd.R_reads' HO_9.out).2.2 (ji25) p421 q421
                                cases e421
                                replace p421 := eq_true p421
                                replace q421 := eq_true q421
                                have p422 : 0 ≤ ((ji25) : Int) := of_decide_eq_true (by first | (with_reducible assumption) | assumption)
                                have q422 : (ji25) < (t416.length : Int) := of_decide_eq_true (by first | (with_reducible assumption) | assumption)
                                obtain ⟨ad422, e422, hx422_0⟩ := Kd.at_int (Kd.R_reads' HO_9.out).2.2 (ji25) p422 q422
                                obtain rfl : ad421 = ad422 := (by injection e422)
                                replace p422 := eq_true p422
                                replace q422 := eq_true q422
                                go_wp2
                                (try rw [← hji25])
                                go_roundg kj14
                                case measure => have := HJ2.out; have := HK2.out; have := HJ14.out; omega
                                case rel => exact ⟨(rd t416 (ji25)), (false), (wrap64 (x26_2 + 1)), (by first | rfl | (simp; done) | (simp only [← hji25] <;> (first | rfl | simp)) | (simp [*]; done)), (by first | rfl | (simp; done) | (simp [*]; done)), (by first | rfl | (simp; done) | (simp [*]; done)), H', ⟨by have := HJ2.out; have := HK2.out; have := HJ14.out; omega⟩, ⟨by repeat (first | (with_reducible first | exact HB.out | apply below_alloc | apply pw_below_drewN | apply below_drew1) | exact HB.out)⟩⟩
                              · rw [if_neg c28] at H
                                have c28b0 : ((rd t416 (ji25)) == x5_2) = false := beq_eq_false_iff_ne.mpr c28
                                have c28b1 : ((rd t416 (ji25)) != x5_2) = true := bne_iff_ne.mpr c28
                                obtain rfl := Option.some.inj H
                                obtain ⟨Ao30, co30, eo30⟩ := Kd.R_slice HO_9.out
                                subst eo30
                                have p421 : 0 ≤ ((ji25) : Int) := of_decide_eq_true (by first | (with_reducible assumption) | assumption)
                                have q421 : (ji25) < (t416.length : Int) := of_decide_eq_true (by first | (with_reducible assumption) | assumption)
                                obtain ⟨ad421, e421, hx421_0⟩ := Kd.at_int (Kd.R_reads' HO_9.out).2.2 (ji25) p421 q421
                                cases e421
                                replace p421 := eq_true p421
                                replace q421 := eq_true q421
                                go_wp2
                                go_ret
                                exact ⟨by first | rfl | (simp [errW_none, errW_some] <;> rfl) | (simp only [← hji25]; first | rfl | (simp [errW_none, errW_some] <;> rfl)) | (simp [*, errW_none, errW_some] <;> rfl), by repeat (first | (with_reducible first | exact HB.out | apply below_alloc | apply pw_below_drewN | apply below_drew1) | exact HB.out)⟩
                            · rw [if_neg c27] at H
                              exact absurd H (by simp)
                          · rw [if_neg c26] at H
                            exact absurd H (by simp)
                · rw [if_neg c13] at H
                  exact absurd H (by simp)
              · rw [if_neg c12] at H
                exact absurd H (by simp)
            · rw [if_neg c11] at H
              have c11b0 : decide (x26_2 < (l1.length : Int)) = false := decide_eq_false c11
              clear c11
              obtain rfl := Option.some.inj H
              go_wp2
              go_ret
              exact ⟨by first | rfl | (simp [errW_none, errW_some] <;> rfl) | (simp [*, errW_none, errW_some] <;> rfl), by repeat (first | (with_reducible first | exact HB.out | apply below_alloc | apply pw_below_drewN | apply below_drew1) | exact HB.out)⟩

/-- THE ONE PURE STATEMENT of rosarylaw12_FingerRounds: yours. -/
def rosarylaw12_FingerRounds.Pure : Prop := ∀ (a0 : Int) (l1 : List Int), (Lit.int .u64 a0).wf = true → l1.length ≤ maxLen → l1.length * 8 ≤ 140737488351232 → (∀ x ∈ l1, (Lit.int .u64 x).wf = true) → ∃ k, rosarylaw12_FingerRounds.f k a0 l1 = some true
theorem rosarylaw12_FingerRounds.walk (P : rosarylaw12_FingerRounds.Pure) (a0 : Int) (a1 : Option Addr) (len1 cap1 : Nat) (z1 : List Int) (w : World) (w0 : (Lit.int .u64 a0).wf = true) (w1 : (a1 = none ∧ len1 = 0 ∧ cap1 = 0 ∧ z1 = []) ∨ ∃ x, a1 = some x ∧ len1 ≤ cap1 ∧ cap1 ≤ maxLen ∧ z1.length = cap1 ∧ (∀ i, i < z1.length → w.cell? (x.add i) = some (.int .u64 (z1.getD i 0))) ∧ ∀ n ∈ z1, (Lit.int .u64 n).wf = true) (y1 : len1 * 8 ≤ 140737488351232) :
    Calls Try.prog 8 #[.int .u64 a0, .slice a1 len1 cap1] w fun e w' => e = .returned (.bool true) ∧ Below w.heap.size w w' := by
  obtain ⟨l1, rfl, hr1, hm1, hw1, hc1⟩ := ReadsInt.ofRowC w1
  obtain ⟨k, h⟩ := P a0 l1 w0 hm1 y1 hw1
  refine (rosarylaw12_FingerRounds.calls k a0 _ _ l1 true w (Kd.C_of_reads (d := (0 : Int)) (h1 := fun _ => rfl) hr1) hc1 h).mono ?_
  rintro e w' ⟨rfl, hd⟩
  exact ⟨rfl, hd⟩

end Go.Proofs.Ytfkhdfnjlegnhaa.P
