-- Printed by this session's program wip/lprint.py (a changed copy of the kit's print), out of the translation. Not trusted: Lean checks it.
import Derived.Test.YtjenfohogjomdaaPx0
import Derived.Test.YtjenfohogjomdaaPx1
import Derived.Test.YtjenfohogjomdaaPx2
import Derived.Test.YtjenfohogjomdaaPx4
namespace Go.Proofs.Ytjenfohogjomdaa.P
open Go.RowKit Go.Proofs.YtjenfohogjomdaaW.PrintWords Go.Proofs.YtjenfohogjomdaaW.PrintLast Go.Proofs.YtjenfohogjomdaaW.PrintMore
attribute [local go_sem] max2_int min2_int max_two min_two max_three min_three max_four min_four   -- for this text's walks alone
set_option linter.unusedVariables false
set_option linter.unusedSimpArgs false

/-! ### rosarylaw18_RatioTells: function 5 -/
mutual
def rosarylaw18_RatioTells.j0 : Nat → Int → Int → Int → Int → List Int → Bool → Option (Bool)
  | 0, _, _, _, _, _, _ => none
  | k + 1, x0, x1, x2, x3, x4, x20 => if x20 = true then ((rosarylaw18_alive.f k).bind fun t150 => (some t150)) else (rosarylaw18_RatioTells.l0 k x0 x1 x2 x3 x4 0 x4 (x4.length : Int) 0)
def rosarylaw18_RatioTells.l0 : Nat → Int → Int → Int → Int → List Int → Int → List Int → Int → Int → Option (Bool)
  | 0, _, _, _, _, _, _, _, _, _ => none
  | k + 1, x0, x1, x2, x3, x4, x11, x22, x23, x24 => if x24 < x23 then (if 0 ≤ x24 then (if x24 < (x22.length : Int) then (if (rd x22 x24) > 0 then (rosarylaw18_RatioTells.l0 k x0 x1 x2 x3 x4 (IntKind.u64.wrap (x11 + (IntKind.u64.wrap ((IntKind.u64.wrap (rd x22 x24)) * (IntKind.u64.wrap (rd x22 x24)))))) x22 x23 (wrap64 (x24 + 1))) else (rosarylaw18_RatioTells.l0 k x0 x1 x2 x3 x4 x11 x22 x23 (wrap64 (x24 + 1)))) else (none)) else (none)) else ((ratio_Uneven.f k x0 x1).bind fun t152 => ((rosaryref10_Uneven.f x0 x1).bind fun t153 => (if (t152 == t153) = true then ((ratio_Worth.f k x0 x1 x2).bind fun t154 => ((rosaryref10_Worth.f x0 x1 x2).bind fun t155 => (if (t154 == t155) = true then ((ratio_WorthHop.f k x0 x1 x2 x3).bind fun t156 => ((rosaryref10_WorthHop.f x0 x1 x2 x3).bind fun t157 => (if (t156 == t157) = true then ((ratio_Potential.f k x4).bind fun t158 => (some (t158 == x11))) else (some false)))) else (some false)))) else (some false))))
end
def rosarylaw18_RatioTells.f (k : Nat) (a0 : Int) (a1 : Int) (a2 : Int) (a3 : Int) (l4 : List Int) : Option (Bool) := if (l4.length : Int) > 60 then (rosarylaw18_RatioTells.j0 k a0 a1 a2 a3 l4 true) else ((rosarylaw18_alive.f k).bind fun t149 => (rosarylaw18_RatioTells.j0 k a0 a1 a2 a3 l4 (!t149)))
theorem rosarylaw18_RatioTells.mono_l : ∀ k, (∀ y0 y1 y2 y3 y4 y5, LeO (rosarylaw18_RatioTells.j0 k y0 y1 y2 y3 y4 y5) (rosarylaw18_RatioTells.j0 (k + 1) y0 y1 y2 y3 y4 y5)) ∧ (∀ y0 y1 y2 y3 y4 y5 y6 y7 y8, LeO (rosarylaw18_RatioTells.l0 k y0 y1 y2 y3 y4 y5 y6 y7 y8) (rosarylaw18_RatioTells.l0 (k + 1) y0 y1 y2 y3 y4 y5 y6 y7 y8))
  | 0 => ⟨fun _ _ _ _ _ _ r h => by simp [rosarylaw18_RatioTells.j0] at h, fun _ _ _ _ _ _ _ _ _ r h => by simp [rosarylaw18_RatioTells.l0] at h⟩
  | k + 1 => by
    obtain ⟨ih0, ih1⟩ := rosarylaw18_RatioTells.mono_l k
    refine ⟨?_, ?_⟩
    · intro y0 y1 y2 y3 y4 y5
      unfold rosarylaw18_RatioTells.j0
      repeat' first
      | (with_reducible exact ih0 _ _ _ _ _ _)
      | (with_reducible exact ih1 _ _ _ _ _ _ _ _ _)
      | (with_reducible exact ratio_Potential.mono _ _)
      | (with_reducible exact ratio_Uneven.mono _ _ _)
      | (with_reducible exact ratio_Worth.mono _ _ _ _)
      | (with_reducible exact ratio_WorthHop.mono _ _ _ _ _)
      | (with_reducible exact rosarylaw18_alive.mono _)
      | (with_reducible exact LeO.refl _)
      | (with_reducible exact LeO.none _)
      | (with_reducible refine LeO.ite ?_ ?_)
      | (with_reducible refine LeO.bind ?_ (fun _ => ?_))
      | exact ih0 _ _ _ _ _ _
      | exact ih1 _ _ _ _ _ _ _ _ _
      | exact ratio_Potential.mono _ _
      | exact ratio_Uneven.mono _ _ _
      | exact ratio_Worth.mono _ _ _ _
      | exact ratio_WorthHop.mono _ _ _ _ _
      | exact rosarylaw18_alive.mono _
      | exact LeO.none _
      | refine LeO.ite ?_ ?_
      | refine LeO.bind ?_ (fun _ => ?_)
    · intro y0 y1 y2 y3 y4 y5 y6 y7 y8
      unfold rosarylaw18_RatioTells.l0
      repeat' first
      | (with_reducible exact ih0 _ _ _ _ _ _)
      | (with_reducible exact ih1 _ _ _ _ _ _ _ _ _)
      | (with_reducible exact ratio_Potential.mono _ _)
      | (with_reducible exact ratio_Uneven.mono _ _ _)
      | (with_reducible exact ratio_Worth.mono _ _ _ _)
      | (with_reducible exact ratio_WorthHop.mono _ _ _ _ _)
      | (with_reducible exact rosarylaw18_alive.mono _)
      | (with_reducible exact LeO.refl _)
      | (with_reducible exact LeO.none _)
      | (with_reducible refine LeO.ite ?_ ?_)
      | (with_reducible refine LeO.bind ?_ (fun _ => ?_))
      | exact ih0 _ _ _ _ _ _
      | exact ih1 _ _ _ _ _ _ _ _ _
      | exact ratio_Potential.mono _ _
      | exact ratio_Uneven.mono _ _ _
      | exact ratio_Worth.mono _ _ _ _
      | exact ratio_WorthHop.mono _ _ _ _ _
      | exact rosarylaw18_alive.mono _
      | exact LeO.none _
      | refine LeO.ite ?_ ?_
      | refine LeO.bind ?_ (fun _ => ?_)
theorem rosarylaw18_RatioTells.mono : ∀ a0 a1 a2 a3 a4 k, LeO (rosarylaw18_RatioTells.f k a0 a1 a2 a3 a4) (rosarylaw18_RatioTells.f (k + 1) a0 a1 a2 a3 a4) := by
  intro a0 a1 a2 a3 a4 k
  obtain ⟨ih0, ih1⟩ := rosarylaw18_RatioTells.mono_l k
  unfold rosarylaw18_RatioTells.f
  repeat' first
      | (with_reducible exact ih0 _ _ _ _ _ _)
      | (with_reducible exact ih1 _ _ _ _ _ _ _ _ _)
      | (with_reducible exact ratio_Potential.mono _ _)
      | (with_reducible exact ratio_Uneven.mono _ _ _)
      | (with_reducible exact ratio_Worth.mono _ _ _ _)
      | (with_reducible exact ratio_WorthHop.mono _ _ _ _ _)
      | (with_reducible exact rosarylaw18_alive.mono _)
      | (with_reducible exact LeO.refl _)
      | (with_reducible exact LeO.none _)
      | (with_reducible refine LeO.ite ?_ ?_)
      | (with_reducible refine LeO.bind ?_ (fun _ => ?_))
      | exact ih0 _ _ _ _ _ _
      | exact ih1 _ _ _ _ _ _ _ _ _
      | exact ratio_Potential.mono _ _
      | exact ratio_Uneven.mono _ _ _
      | exact ratio_Worth.mono _ _ _ _
      | exact ratio_WorthHop.mono _ _ _ _ _
      | exact rosarylaw18_alive.mono _
      | exact LeO.none _
      | refine LeO.ite ?_ ?_
      | refine LeO.bind ?_ (fun _ => ?_)
set_option maxHeartbeats 8000000 in
set_option maxRecDepth 100000 in
theorem rosarylaw18_RatioTells.calls (k : Nat) (a0 : Int) (a1 : Int) (a2 : Int) (a3 : Int) (A4 : Option Addr) (c4 : Nat) (l4 : List Int) (r : Bool) (w : World) (hr4 : Kd.C (Kd.int .i64) w A4 l4.length l4) (hc4 : l4.length ≤ c4) (h : rosarylaw18_RatioTells.f k a0 a1 a2 a3 l4 = some r) :
    Calls Try.prog 5 #[.int .i64 a0, .int .i64 a1, .int .i64 a2, .int .i64 a3, .slice A4 l4.length c4] w fun e w' => e = .returned (.bool r) ∧ Below w.heap.size w w' := by
  have HR4 := Aside0.mk hr4
  have HC4 := Aside0.mk hc4
  clear hr4 hc4
  have HB := Aside0.mk (Below.refl w.heap.size w)
  have H : (if (l4.length : Int) > 60 then (rosarylaw18_RatioTells.j0 k a0 a1 a2 a3 l4 true) else ((rosarylaw18_alive.f k).bind fun t149 => (rosarylaw18_RatioTells.j0 k a0 a1 a2 a3 l4 (!t149)))) = some r := h
  clear h
  have HC6 := Aside0.mk H
  clear H
  go_enter Try.func5, Try.ntmps5
  go_upto_region 1 with (fail)
  go_cut [20] (fun v20 wc => ∃ (kq : Nat) (x20_5 : Bool), v20 = .bool x20_5 ∧ Aside0 (rosarylaw18_RatioTells.j0 kq a0 a1 a2 a3 l4 x20_5 = some r) ∧ Aside0 (kq ≤ k) ∧ Aside0 (Below w.heap.size w wc))
  case first =>
    have H := HC6.out
    clear HC6
    by_cases c7 : (l4.length : Int) > 60
    · rw [if_pos c7] at H
      have c7b0 : decide (60 < (l4.length : Int)) = true := decide_eq_true c7
      have c7b1 : decide (60 < l4.length) = true := decide_eq_true (by omega)
      clear c7
      (first | rw [c7b0] | (simp only [i64_w, i32_w]; rw [c7b0]) | skip)
      have H' := Aside0.mk H
      clear H
      go_wp2
      go_meet
      case rel => exact ⟨_, (true), (by first | rfl | (simp; done) | (simp [*]; done)), H', ⟨by first | omega | exact Nat.le_refl _⟩, ⟨by repeat (first | (with_reducible first | exact HB.out | apply below_alloc | apply pw_below_drewN | apply below_drew1) | exact HB.out)⟩⟩
    · rw [if_neg c7] at H
      have c7b0 : decide (60 < (l4.length : Int)) = false := decide_eq_false c7
      have c7b1 : decide (60 < l4.length) = false := decide_eq_false (by omega)
      clear c7
      (first | rw [c7b0] | (simp only [i64_w, i32_w]; rw [c7b0]) | skip)
      replace H := Option.bind_eq_some_iff.mp H
      obtain ⟨t149, A80, H⟩ := H
      replace H : (rosarylaw18_RatioTells.j0 k a0 a1 a2 a3 l4 (!t149)) = some r := H
      have A8 := Aside0.mk A80
      clear A80
      have H' := Aside0.mk H
      clear H
      go_wp2_with (first | (go_at_call 10; (with_reducible refine (rosarylaw18_alive.calls k  t149 _ A8.out).mono ?_); rintro e w9 ⟨rfl, hb⟩; have n0_ := Aside0.mk (below_step (by repeat (first | (with_reducible first | exact HB.out | apply below_alloc | apply pw_below_drewN | apply below_drew1) | exact HB.out)) hb); clear HB; have HB := n0_; clear n0_; (try clear hb); (try clear hb2); (try clear hk); (try clear hi)))
      go_meet
      case rel => exact ⟨_, (!t149), (by first | rfl | (simp; done) | (simp [*]; done)), H', ⟨by first | omega | exact Nat.le_refl _⟩, ⟨by repeat (first | (with_reducible first | exact HB.out | apply below_alloc | apply pw_below_drewN | apply below_drew1) | exact HB.out)⟩⟩
  case rest =>
    clear HC6
    try clear p2
    try clear c4
    try clear c5
    try clear c7
    try clear c7b0
    try clear c7b1
    obtain ⟨kq, x20_5, rfl, HA, HJ5, HB⟩ := hcut
    cases kq with
    | zero => exact absurd HA.out (by simp [rosarylaw18_RatioTells.j0])
    | succ kj5 =>
      have H := HA.out
      clear HA
      simp only [rosarylaw18_RatioTells.j0] at H
      by_cases c10 : x20_5 = true
      · subst c10
        have H1 : ((rosarylaw18_alive.f kj5).bind fun t150 => (some t150)) = some r := by rw [if_pos rfl] at H; exact H
        clear H
        have H := H1
        clear H1
        replace H := Option.bind_eq_some_iff.mp H
        obtain ⟨t150, A110, H⟩ := H
        replace H : (some t150) = some r := H
        have A11 := Aside0.mk A110
        clear A110
        obtain rfl := Option.some.inj H
        go_wp2_with (first | ((with_reducible refine gate_callee (f := 10) rfl ?_); refine goesL_ (some 21) rfl rfl Try.func10 (by kernel_rfl) rfl #[] rfl (by (try simp only [List.map_toArray, List.map_cons, List.map_nil]); first | done | rfl | (simp only [List.length_drop, List.length_take]; rfl)) ?_; (with_reducible refine (rosarylaw18_alive.calls kj5  t150 _ A11.out).mono ?_); rintro e w12 ⟨rfl, hb⟩; refine ⟨_, rfl, ?_⟩; have n0_ := Aside0.mk (below_step (by repeat (first | (with_reducible first | exact HB.out | apply below_alloc | apply pw_below_drewN | apply below_drew1) | exact HB.out)) hb); clear HB; have HB := n0_; clear n0_; (try clear hb); (try clear hb2); (try clear hk); (try clear hi)))
        go_ret
        exact ⟨by first | rfl | (simp [errW_none, errW_some] <;> rfl) | (simp [*, errW_none, errW_some] <;> rfl), by repeat (first | (with_reducible first | exact HB.out | apply below_alloc | apply pw_below_drewN | apply below_drew1) | exact HB.out)⟩
      · replace c10 := Bool.eq_false_iff.mpr c10
        subst c10
        have H1 : (rosarylaw18_RatioTells.l0 kj5 a0 a1 a2 a3 l4 0 l4 (l4.length : Int) 0) = some r := by rw [if_neg (show ¬ (false = true) by decide)] at H; exact H
        clear H
        have H := H1
        clear H1
        have H' := Aside0.mk H
        clear H
        go_wp2
        go_loopg [11, 24] kj5 (fun kq v11 v24 w' => ∃ (x11_2 : Int) (x24_2 : Int), v11 = .int .u64 x11_2 ∧ v24 = .int .i64 x24_2 ∧ Aside0 (rosarylaw18_RatioTells.l0 kq a0 a1 a2 a3 l4 x11_2 l4 (l4.length : Int) x24_2 = some r) ∧ Aside0 (kq ≤ kj5) ∧ Aside0 (Below w.heap.size w w'))
        case atStart => exact ⟨(0), (0), (by first | rfl | (simp; done) | (simp [*]; done)), (by first | rfl | (simp; done) | (simp [*]; done)), H', ⟨Nat.le_refl _⟩, ⟨by repeat (first | (with_reducible first | exact HB.out | apply below_alloc | apply pw_below_drewN | apply below_drew1) | exact HB.out)⟩⟩
        case round =>
          clear H'
          try clear c1
          try clear p2
          try clear c4
          try clear c5
          try clear c7
          try clear c7b0
          try clear c7b1
          try clear c10
          try clear p2
          obtain ⟨x11_2, x24_2, rfl, rfl, HA, HK2, HB⟩ := hrel
          cases gk with
          | zero => exact absurd HA.out (by simp [rosarylaw18_RatioTells.l0])
          | succ k2 =>
            have H := HA.out
            clear HA
            simp only [rosarylaw18_RatioTells.l0] at H
            by_cases c13 : x24_2 < (l4.length : Int)
            · rw [if_pos c13] at H
              have c13b0 : decide (x24_2 < (l4.length : Int)) = true := decide_eq_true c13
              clear c13
              by_cases c14 : 0 ≤ x24_2
              · rw [if_pos c14] at H
                have c14b0 : decide (0 ≤ x24_2) = true := decide_eq_true c14
                clear c14
                by_cases c15 : x24_2 < (l4.length : Int)
                · rw [if_pos c15] at H
                  have c15b0 : decide (x24_2 < (l4.length : Int)) = true := decide_eq_true c15
                  clear c15
                  by_cases c16 : (rd l4 x24_2) > 0
                  · rw [if_pos c16] at H
                    have c16b0 : decide (0 < (rd l4 x24_2)) = true := decide_eq_true c16
                    clear c16
                    have H' := Aside0.mk H
                    clear H
                    have p151 : 0 ≤ (x24_2 : Int) := of_decide_eq_true (by first | (with_reducible assumption) | assumption)
                    have q151 : x24_2 < (l4.length : Int) := of_decide_eq_true (by first | (with_reducible assumption) | assumption)
                    obtain ⟨ad151, e151, hx151_0⟩ := Kd.at_int HR4.out x24_2 p151 q151
                    cases e151
                    replace hx151_0 := (HB.out.cell (World.block_lt_of_cell? w _ hx151_0)).trans hx151_0
                    replace p151 := eq_true p151
                    replace q151 := eq_true q151
                    go_wp2
                    go_roundg k2
                    case measure => have := HJ5.out; have := HK2.out; omega
                    case rel => exact ⟨(IntKind.u64.wrap (x11_2 + (IntKind.u64.wrap ((IntKind.u64.wrap (rd l4 x24_2)) * (IntKind.u64.wrap (rd l4 x24_2)))))), (wrap64 (x24_2 + 1)), (by first | rfl | (simp; done) | (simp [*]; done)), (by first | rfl | (simp; done) | (simp [*]; done)), H', ⟨by have := HJ5.out; have := HK2.out; omega⟩, ⟨by repeat (first | (with_reducible first | exact HB.out | apply below_alloc | apply pw_below_drewN | apply below_drew1) | exact HB.out)⟩⟩
                  · rw [if_neg c16] at H
                    have c16b0 : decide (0 < (rd l4 x24_2)) = false := decide_eq_false c16
                    clear c16
                    have H' := Aside0.mk H
                    clear H
                    have p151 : 0 ≤ (x24_2 : Int) := of_decide_eq_true (by first | (with_reducible assumption) | assumption)
                    have q151 : x24_2 < (l4.length : Int) := of_decide_eq_true (by first | (with_reducible assumption) | assumption)
                    obtain ⟨ad151, e151, hx151_0⟩ := Kd.at_int HR4.out x24_2 p151 q151
                    cases e151
                    replace hx151_0 := (HB.out.cell (World.block_lt_of_cell? w _ hx151_0)).trans hx151_0
                    replace p151 := eq_true p151
                    replace q151 := eq_true q151
                    go_wp2
                    go_roundg k2
                    case measure => have := HJ5.out; have := HK2.out; omega
                    case rel => exact ⟨(x11_2), (wrap64 (x24_2 + 1)), (by first | rfl | (simp; done) | (simp [*]; done)), (by first | rfl | (simp; done) | (simp [*]; done)), H', ⟨by have := HJ5.out; have := HK2.out; omega⟩, ⟨by repeat (first | (with_reducible first | exact HB.out | apply below_alloc | apply pw_below_drewN | apply below_drew1) | exact HB.out)⟩⟩
                · rw [if_neg c15] at H
                  exact absurd H (by simp)
              · rw [if_neg c14] at H
                exact absurd H (by simp)
            · rw [if_neg c13] at H
              have c13b0 : decide (x24_2 < (l4.length : Int)) = false := decide_eq_false c13
              clear c13
              replace H := Option.bind_eq_some_iff.mp H
              obtain ⟨t152, A170, H⟩ := H
              replace H : ((rosaryref10_Uneven.f a0 a1).bind fun t153 => (if (t152 == t153) = true then ((ratio_Worth.f k2 a0 a1 a2).bind fun t154 => ((rosaryref10_Worth.f a0 a1 a2).bind fun t155 => (if (t154 == t155) = true then ((ratio_WorthHop.f k2 a0 a1 a2 a3).bind fun t156 => ((rosaryref10_WorthHop.f a0 a1 a2 a3).bind fun t157 => (if (t156 == t157) = true then ((ratio_Potential.f k2 l4).bind fun t158 => (some (t158 == x11_2))) else (some false)))) else (some false)))) else (some false))) = some r := H
              have A17 := Aside0.mk A170
              clear A170
              replace H := Option.bind_eq_some_iff.mp H
              obtain ⟨t153, A180, H⟩ := H
              replace H : (if (t152 == t153) = true then ((ratio_Worth.f k2 a0 a1 a2).bind fun t154 => ((rosaryref10_Worth.f a0 a1 a2).bind fun t155 => (if (t154 == t155) = true then ((ratio_WorthHop.f k2 a0 a1 a2 a3).bind fun t156 => ((rosaryref10_WorthHop.f a0 a1 a2 a3).bind fun t157 => (if (t156 == t157) = true then ((ratio_Potential.f k2 l4).bind fun t158 => (some (t158 == x11_2))) else (some false)))) else (some false)))) else (some false)) = some r := H
              have A18 := Aside0.mk A180
              clear A180
              by_cases c19 : (t152 == t153) = true
              · rw [if_pos c19] at H
                have c19b0 : (t152 == t153) = true := c19
                (try (have c19b1 : decide (t152 = t153) = true := by simpa using c19))
                (try (have c19b2 : (t152 == t153) = true := by simpa using c19))
                clear c19
                replace H := Option.bind_eq_some_iff.mp H
                obtain ⟨t154, A200, H⟩ := H
                replace H : ((rosaryref10_Worth.f a0 a1 a2).bind fun t155 => (if (t154 == t155) = true then ((ratio_WorthHop.f k2 a0 a1 a2 a3).bind fun t156 => ((rosaryref10_WorthHop.f a0 a1 a2 a3).bind fun t157 => (if (t156 == t157) = true then ((ratio_Potential.f k2 l4).bind fun t158 => (some (t158 == x11_2))) else (some false)))) else (some false))) = some r := H
                have A20 := Aside0.mk A200
                clear A200
                replace H := Option.bind_eq_some_iff.mp H
                obtain ⟨t155, A210, H⟩ := H
                replace H : (if (t154 == t155) = true then ((ratio_WorthHop.f k2 a0 a1 a2 a3).bind fun t156 => ((rosaryref10_WorthHop.f a0 a1 a2 a3).bind fun t157 => (if (t156 == t157) = true then ((ratio_Potential.f k2 l4).bind fun t158 => (some (t158 == x11_2))) else (some false)))) else (some false)) = some r := H
                have A21 := Aside0.mk A210
                clear A210
                by_cases c22 : (t154 == t155) = true
                · rw [if_pos c22] at H
                  have c22b0 : (t154 == t155) = true := c22
                  (try (have c22b1 : decide (t154 = t155) = true := by simpa using c22))
                  (try (have c22b2 : (t154 == t155) = true := by simpa using c22))
                  clear c22
                  replace H := Option.bind_eq_some_iff.mp H
                  obtain ⟨t156, A230, H⟩ := H
                  replace H : ((rosaryref10_WorthHop.f a0 a1 a2 a3).bind fun t157 => (if (t156 == t157) = true then ((ratio_Potential.f k2 l4).bind fun t158 => (some (t158 == x11_2))) else (some false))) = some r := H
                  have A23 := Aside0.mk A230
                  clear A230
                  replace H := Option.bind_eq_some_iff.mp H
                  obtain ⟨t157, A240, H⟩ := H
                  replace H : (if (t156 == t157) = true then ((ratio_Potential.f k2 l4).bind fun t158 => (some (t158 == x11_2))) else (some false)) = some r := H
                  have A24 := Aside0.mk A240
                  clear A240
                  by_cases c25 : (t156 == t157) = true
                  · rw [if_pos c25] at H
                    have c25b0 : (t156 == t157) = true := c25
                    (try (have c25b1 : decide (t156 = t157) = true := by simpa using c25))
                    (try (have c25b2 : (t156 == t157) = true := by simpa using c25))
                    clear c25
                    replace H := Option.bind_eq_some_iff.mp H
                    obtain ⟨t158, A260, H⟩ := H
                    replace H : (some (t158 == x11_2)) = some r := H
                    have A26 := Aside0.mk A260
                    clear A260
                    obtain rfl := Option.some.inj H
                    go_wp2_with (first | ((with_reducible refine gate_callee (f := 11) rfl ?_); refine goesL_ (some 40) rfl rfl Try.func11 (by kernel_rfl) rfl #[.int .i64 a0, .int .i64 a1] rfl (by (try simp only [List.map_toArray, List.map_cons, List.map_nil]); first | done | rfl | (simp only [List.length_drop, List.length_take]; rfl)) ?_; (with_reducible refine (ratio_Uneven.calls k2 a0 a1 t152 _ A17.out).mono ?_); rintro e w27 ⟨rfl, hb⟩; refine ⟨_, rfl, ?_⟩; have n0_ := Aside0.mk (below_step (by repeat (first | (with_reducible first | exact HB.out | apply below_alloc | apply pw_below_drewN | apply below_drew1) | exact HB.out)) hb); clear HB; have HB := n0_; clear n0_; (try clear hb); (try clear hb2); (try clear hk); (try clear hi)) | ((with_reducible refine gate_callee (f := 13) rfl ?_); refine goesL_ (some 43) rfl rfl Try.func13 (by kernel_rfl) rfl #[.int .i64 a0, .int .i64 a1] rfl (by (try simp only [List.map_toArray, List.map_cons, List.map_nil]); first | done | rfl | (simp only [List.length_drop, List.length_take]; rfl)) ?_; (with_reducible refine (rosaryref10_Uneven.calls a0 a1 t153 _ A18.out).mono ?_); rintro e w' ⟨rfl, ⟨nd, rfl⟩⟩; refine ⟨_, rfl, ?_⟩) | (go_at_call 14; (with_reducible refine (ratio_Worth.calls k2 a0 a1 a2 t154 _ A20.out).mono ?_); rintro e w28 ⟨rfl, hb⟩; have n0_ := Aside0.mk (below_step (by repeat (first | (with_reducible first | exact HB.out | apply below_alloc | apply pw_below_drewN | apply below_drew1) | exact HB.out)) hb); clear HB; have HB := n0_; clear n0_; (try clear hb); (try clear hb2); (try clear hk); (try clear hi)) | (go_at_call 15; (with_reducible refine (rosaryref10_Worth.calls a0 a1 a2 t155 _ A21.out).mono ?_); rintro e w' ⟨rfl, ⟨nd, rfl⟩⟩) | (go_at_call 16; (with_reducible refine (ratio_WorthHop.calls k2 a0 a1 a2 a3 t156 _ A23.out).mono ?_); rintro e w29 ⟨rfl, hb⟩; have n0_ := Aside0.mk (below_step (by repeat (first | (with_reducible first | exact HB.out | apply below_alloc | apply pw_below_drewN | apply below_drew1) | exact HB.out)) hb); clear HB; have HB := n0_; clear n0_; (try clear hb); (try clear hb2); (try clear hk); (try clear hi)) | (go_at_call 17; (with_reducible refine (rosaryref10_WorthHop.calls a0 a1 a2 a3 t157 _ A24.out).mono ?_); rintro e w' ⟨rfl, ⟨nd, rfl⟩⟩) | (go_at_call 12; (with_reducible refine (ratio_Potential.calls k2 _ _ l4 t158 _ ?side1 ?side2 A26.out).mono ?_); (case side1 => repeat (first | exact (Kd.C_below HR4.out (by repeat (first | (with_reducible first | exact HB.out | apply below_alloc | apply pw_below_drewN | apply below_drew1) | exact HB.out))) | (with_reducible refine Kd.C_alloc ?_ _) | (with_reducible refine Kd.C_drewN ?_ _) | (with_reducible refine Kd.C_drew ?_))); (case side2 => exact HC4.out); rintro e w' ⟨rfl, ⟨nd, rfl⟩⟩))
                    go_ret
                    exact ⟨by first | rfl | (simp [errW_none, errW_some] <;> rfl) | (simp [*, errW_none, errW_some] <;> rfl), by repeat (first | (with_reducible first | exact HB.out | apply below_alloc | apply pw_below_drewN | apply below_drew1) | exact HB.out)⟩
                  · rw [if_neg c25] at H
                    have c25b0 : (t156 == t157) = false := by simpa using c25
                    (try (have c25b1 : decide (t156 = t157) = false := by simpa using c25))
                    (try (have c25b2 : (t156 == t157) = false := by simpa using c25))
                    (try (have c25b3 : ¬ (t156 = t157) := by simpa using c25))
                    clear c25
                    obtain rfl := Option.some.inj H
                    go_wp2_with (first | ((with_reducible refine gate_callee (f := 11) rfl ?_); refine goesL_ (some 40) rfl rfl Try.func11 (by kernel_rfl) rfl #[.int .i64 a0, .int .i64 a1] rfl (by (try simp only [List.map_toArray, List.map_cons, List.map_nil]); first | done | rfl | (simp only [List.length_drop, List.length_take]; rfl)) ?_; (with_reducible refine (ratio_Uneven.calls k2 a0 a1 t152 _ A17.out).mono ?_); rintro e w30 ⟨rfl, hb⟩; refine ⟨_, rfl, ?_⟩; have n0_ := Aside0.mk (below_step (by repeat (first | (with_reducible first | exact HB.out | apply below_alloc | apply pw_below_drewN | apply below_drew1) | exact HB.out)) hb); clear HB; have HB := n0_; clear n0_; (try clear hb); (try clear hb2); (try clear hk); (try clear hi)) | ((with_reducible refine gate_callee (f := 13) rfl ?_); refine goesL_ (some 43) rfl rfl Try.func13 (by kernel_rfl) rfl #[.int .i64 a0, .int .i64 a1] rfl (by (try simp only [List.map_toArray, List.map_cons, List.map_nil]); first | done | rfl | (simp only [List.length_drop, List.length_take]; rfl)) ?_; (with_reducible refine (rosaryref10_Uneven.calls a0 a1 t153 _ A18.out).mono ?_); rintro e w' ⟨rfl, ⟨nd, rfl⟩⟩; refine ⟨_, rfl, ?_⟩) | (go_at_call 14; (with_reducible refine (ratio_Worth.calls k2 a0 a1 a2 t154 _ A20.out).mono ?_); rintro e w31 ⟨rfl, hb⟩; have n0_ := Aside0.mk (below_step (by repeat (first | (with_reducible first | exact HB.out | apply below_alloc | apply pw_below_drewN | apply below_drew1) | exact HB.out)) hb); clear HB; have HB := n0_; clear n0_; (try clear hb); (try clear hb2); (try clear hk); (try clear hi)) | (go_at_call 15; (with_reducible refine (rosaryref10_Worth.calls a0 a1 a2 t155 _ A21.out).mono ?_); rintro e w' ⟨rfl, ⟨nd, rfl⟩⟩) | (go_at_call 16; (with_reducible refine (ratio_WorthHop.calls k2 a0 a1 a2 a3 t156 _ A23.out).mono ?_); rintro e w32 ⟨rfl, hb⟩; have n0_ := Aside0.mk (below_step (by repeat (first | (with_reducible first | exact HB.out | apply below_alloc | apply pw_below_drewN | apply below_drew1) | exact HB.out)) hb); clear HB; have HB := n0_; clear n0_; (try clear hb); (try clear hb2); (try clear hk); (try clear hi)) | (go_at_call 17; (with_reducible refine (rosaryref10_WorthHop.calls a0 a1 a2 a3 t157 _ A24.out).mono ?_); rintro e w' ⟨rfl, ⟨nd, rfl⟩⟩))
                    go_ret
                    exact ⟨by first | rfl | (simp [errW_none, errW_some] <;> rfl) | (simp [*, errW_none, errW_some] <;> rfl), by repeat (first | (with_reducible first | exact HB.out | apply below_alloc | apply pw_below_drewN | apply below_drew1) | exact HB.out)⟩
                · rw [if_neg c22] at H
                  have c22b0 : (t154 == t155) = false := by simpa using c22
                  (try (have c22b1 : decide (t154 = t155) = false := by simpa using c22))
                  (try (have c22b2 : (t154 == t155) = false := by simpa using c22))
                  (try (have c22b3 : ¬ (t154 = t155) := by simpa using c22))
                  clear c22
                  obtain rfl := Option.some.inj H
                  go_wp2_with (first | ((with_reducible refine gate_callee (f := 11) rfl ?_); refine goesL_ (some 40) rfl rfl Try.func11 (by kernel_rfl) rfl #[.int .i64 a0, .int .i64 a1] rfl (by (try simp only [List.map_toArray, List.map_cons, List.map_nil]); first | done | rfl | (simp only [List.length_drop, List.length_take]; rfl)) ?_; (with_reducible refine (ratio_Uneven.calls k2 a0 a1 t152 _ A17.out).mono ?_); rintro e w33 ⟨rfl, hb⟩; refine ⟨_, rfl, ?_⟩; have n0_ := Aside0.mk (below_step (by repeat (first | (with_reducible first | exact HB.out | apply below_alloc | apply pw_below_drewN | apply below_drew1) | exact HB.out)) hb); clear HB; have HB := n0_; clear n0_; (try clear hb); (try clear hb2); (try clear hk); (try clear hi)) | ((with_reducible refine gate_callee (f := 13) rfl ?_); refine goesL_ (some 43) rfl rfl Try.func13 (by kernel_rfl) rfl #[.int .i64 a0, .int .i64 a1] rfl (by (try simp only [List.map_toArray, List.map_cons, List.map_nil]); first | done | rfl | (simp only [List.length_drop, List.length_take]; rfl)) ?_; (with_reducible refine (rosaryref10_Uneven.calls a0 a1 t153 _ A18.out).mono ?_); rintro e w' ⟨rfl, ⟨nd, rfl⟩⟩; refine ⟨_, rfl, ?_⟩) | (go_at_call 14; (with_reducible refine (ratio_Worth.calls k2 a0 a1 a2 t154 _ A20.out).mono ?_); rintro e w34 ⟨rfl, hb⟩; have n0_ := Aside0.mk (below_step (by repeat (first | (with_reducible first | exact HB.out | apply below_alloc | apply pw_below_drewN | apply below_drew1) | exact HB.out)) hb); clear HB; have HB := n0_; clear n0_; (try clear hb); (try clear hb2); (try clear hk); (try clear hi)) | (go_at_call 15; (with_reducible refine (rosaryref10_Worth.calls a0 a1 a2 t155 _ A21.out).mono ?_); rintro e w' ⟨rfl, ⟨nd, rfl⟩⟩))
                  go_ret
                  exact ⟨by first | rfl | (simp [errW_none, errW_some] <;> rfl) | (simp [*, errW_none, errW_some] <;> rfl), by repeat (first | (with_reducible first | exact HB.out | apply below_alloc | apply pw_below_drewN | apply below_drew1) | exact HB.out)⟩
              · rw [if_neg c19] at H
                have c19b0 : (t152 == t153) = false := by simpa using c19
                (try (have c19b1 : decide (t152 = t153) = false := by simpa using c19))
                (try (have c19b2 : (t152 == t153) = false := by simpa using c19))
                (try (have c19b3 : ¬ (t152 = t153) := by simpa using c19))
                clear c19
                obtain rfl := Option.some.inj H
                go_wp2_with (first | ((with_reducible refine gate_callee (f := 11) rfl ?_); refine goesL_ (some 40) rfl rfl Try.func11 (by kernel_rfl) rfl #[.int .i64 a0, .int .i64 a1] rfl (by (try simp only [List.map_toArray, List.map_cons, List.map_nil]); first | done | rfl | (simp only [List.length_drop, List.length_take]; rfl)) ?_; (with_reducible refine (ratio_Uneven.calls k2 a0 a1 t152 _ A17.out).mono ?_); rintro e w35 ⟨rfl, hb⟩; refine ⟨_, rfl, ?_⟩; have n0_ := Aside0.mk (below_step (by repeat (first | (with_reducible first | exact HB.out | apply below_alloc | apply pw_below_drewN | apply below_drew1) | exact HB.out)) hb); clear HB; have HB := n0_; clear n0_; (try clear hb); (try clear hb2); (try clear hk); (try clear hi)) | ((with_reducible refine gate_callee (f := 13) rfl ?_); refine goesL_ (some 43) rfl rfl Try.func13 (by kernel_rfl) rfl #[.int .i64 a0, .int .i64 a1] rfl (by (try simp only [List.map_toArray, List.map_cons, List.map_nil]); first | done | rfl | (simp only [List.length_drop, List.length_take]; rfl)) ?_; (with_reducible refine (rosaryref10_Uneven.calls a0 a1 t153 _ A18.out).mono ?_); rintro e w' ⟨rfl, ⟨nd, rfl⟩⟩; refine ⟨_, rfl, ?_⟩))
                go_ret
                exact ⟨by first | rfl | (simp [errW_none, errW_some] <;> rfl) | (simp [*, errW_none, errW_some] <;> rfl), by repeat (first | (with_reducible first | exact HB.out | apply below_alloc | apply pw_below_drewN | apply below_drew1) | exact HB.out)⟩

/-- THE ONE PURE STATEMENT of rosarylaw18_RatioTells: yours. -/
def rosarylaw18_RatioTells.Pure : Prop := ∀ (a0 : Int) (a1 : Int) (a2 : Int) (a3 : Int) (l4 : List Int), (Lit.int .i64 a0).wf = true → (Lit.int .i64 a1).wf = true → (Lit.int .i64 a2).wf = true → (Lit.int .i64 a3).wf = true → l4.length ≤ maxLen → l4.length * 8 ≤ 140737488351232 → (∀ x ∈ l4, (Lit.int .i64 x).wf = true) → ∃ k, rosarylaw18_RatioTells.f k a0 a1 a2 a3 l4 = some true
theorem rosarylaw18_RatioTells.walk (P : rosarylaw18_RatioTells.Pure) (a0 : Int) (a1 : Int) (a2 : Int) (a3 : Int) (a4 : Option Addr) (len4 cap4 : Nat) (z4 : List Int) (w : World) (w0 : (Lit.int .i64 a0).wf = true) (w1 : (Lit.int .i64 a1).wf = true) (w2 : (Lit.int .i64 a2).wf = true) (w3 : (Lit.int .i64 a3).wf = true) (w4 : (a4 = none ∧ len4 = 0 ∧ cap4 = 0 ∧ z4 = []) ∨ ∃ x, a4 = some x ∧ len4 ≤ cap4 ∧ cap4 ≤ maxLen ∧ z4.length = cap4 ∧ (∀ i, i < z4.length → w.cell? (x.add i) = some (.int .i64 (z4.getD i 0))) ∧ ∀ n ∈ z4, (Lit.int .i64 n).wf = true) (y4 : len4 * 8 ≤ 140737488351232) :
    Calls Try.prog 5 #[.int .i64 a0, .int .i64 a1, .int .i64 a2, .int .i64 a3, .slice a4 len4 cap4] w fun e w' => e = .returned (.bool true) ∧ Below w.heap.size w w' := by
  obtain ⟨l4, rfl, hr4, hm4, hw4, hc4⟩ := ReadsInt.ofRowC w4
  obtain ⟨k, h⟩ := P a0 a1 a2 a3 l4 w0 w1 w2 w3 hm4 y4 hw4
  refine (rosarylaw18_RatioTells.calls k a0 a1 a2 a3 _ _ l4 true w (Kd.C_of_reads (d := (0 : Int)) (h1 := fun _ => rfl) hr4) hc4 h).mono ?_
  rintro e w' ⟨rfl, hd⟩
  exact ⟨rfl, hd⟩

end Go.Proofs.Ytjenfohogjomdaa.P
