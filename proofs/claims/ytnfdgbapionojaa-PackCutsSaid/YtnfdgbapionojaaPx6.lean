-- Printed by this session's program wip/lprint.py (a changed copy of the kit's print), out of the translation. Not trusted: Lean checks it.
import Derived.Test.YtnfdgbapionojaaPx0
import Derived.Test.YtnfdgbapionojaaPx1
import Derived.Test.YtnfdgbapionojaaPx2
import Derived.Test.YtnfdgbapionojaaPx3
namespace Go.Proofs.Ytnfdgbapionojaa.P
open Go.RowKit Go.Proofs.YtnfdgbapionojaaW.PrintWords Go.Proofs.YtnfdgbapionojaaW.PrintLast Go.Proofs.YtnfdgbapionojaaW.PrintMore
attribute [local go_sem] max2_int min2_int max_two min_two max_three min_three max_four min_four   -- for this text's walks alone
set_option linter.unusedVariables false
set_option linter.unusedSimpArgs false

/-! ### rosarylaw3_PackCuts: function 5 -/
mutual
def rosarylaw3_PackCuts.j0 : Nat → List ByteArray → Int → Bool → Option (Bool)
  | 0, _, _, _ => none
  | k + 1, x0, x1, x22 => if x22 = true then ((rosarylaw3_alive.f k).bind fun t297 => (some t297)) else (rosarylaw3_PackCuts.l0 k x0 x1 (⟨#[]⟩ : ByteArray) x0 (x0.length : Int) 0)
def rosarylaw3_PackCuts.l0 : Nat → List ByteArray → Int → ByteArray → List ByteArray → Int → Int → Option (Bool)
  | 0, _, _, _, _, _, _ => none
  | k + 1, x0, x1, x5, x24, x25, x26 => if x26 < x25 then (if 0 ≤ x26 then (if x26 < (x24.length : Int) then ((pack_Text.f k (rdOf ByteArray.empty x24 x26)).bind fun bt299 => (if bt299.2 = true then (if x5.size + bt299.1.size ≤ 9223372036854775807 then (rosarylaw3_PackCuts.l0 k x0 x1 (x5 ++ bt299.1) x24 x25 (wrap64 (x26 + 1))) else (none)) else (some (decide (((rdOf ByteArray.empty x24 x26).size : Int) > 255))))) else (none)) else (none)) else (if x5.toList = ([] : List UInt8) then ((pack_From.f x5).bind fun bt301 => (some true)) else (if (x5.size : Int) = 0 then (none) else (if 0 ≤ (Int.tmod (wrap64 ((Int.tmod x1 (x5.size : Int)) + (x5.size : Int))) (x5.size : Int)) then (if (Int.tmod (wrap64 ((Int.tmod x1 (x5.size : Int)) + (x5.size : Int))) (x5.size : Int)) ≤ (x5.size : Int) then ((pack_From.f (x5.extract 0 ((Int.tmod (wrap64 ((Int.tmod x1 (x5.size : Int)) + (x5.size : Int))) (x5.size : Int)) : Int).toNat)).bind fun bt304 => (rosarylaw3_PackCuts.l1 k (Int.tmod (wrap64 ((Int.tmod x1 (x5.size : Int)) + (x5.size : Int))) (x5.size : Int)) 0 false x0 (x0.length : Int) 0 bt304.1 bt304.2)) else (none)) else (none))))
def rosarylaw3_PackCuts.l1 : Nat → Int → Int → Bool → List ByteArray → Int → Int → ByteArray → Bool → Option (Bool)
  | 0, _, _, _, _, _, _, _, _ => none
  | k + 1, x1, x11, x12, x65, x66, x67, x307000, x307001 => if x67 < x66 then (if 0 ≤ x67 then (if x67 < (x65.length : Int) then ((pack_Reader_Text.f k x307000 x307001).bind fun bt317 => (if (wrap64 (x11 + (wrap64 (1 + ((rdOf ByteArray.empty x65 x67).size : Int))))) ≤ x1 then (if x12 = true then (rosarylaw3_PackCuts.j3 k x1 (wrap64 (x11 + (wrap64 (1 + ((rdOf ByteArray.empty x65 x67).size : Int))))) x12 bt317.1 x65 x66 x67 false bt317.2.1 bt317.2.2) else (if bt317.1.toList = (rdOf ByteArray.empty x65 x67).toList then ((pack_Reader_Bad.f bt317.2.1 bt317.2.2).bind fun bt320 => (rosarylaw3_PackCuts.j3 k x1 (wrap64 (x11 + (wrap64 (1 + ((rdOf ByteArray.empty x65 x67).size : Int))))) x12 bt317.1 x65 x66 x67 bt320.1 bt320.2.1 bt320.2.2)) else (rosarylaw3_PackCuts.j3 k x1 (wrap64 (x11 + (wrap64 (1 + ((rdOf ByteArray.empty x65 x67).size : Int))))) x12 bt317.1 x65 x66 x67 true bt317.2.1 bt317.2.2))) else (rosarylaw3_PackCuts.j3 k x1 (wrap64 (x11 + (wrap64 (1 + ((rdOf ByteArray.empty x65 x67).size : Int))))) x12 bt317.1 x65 x66 x67 false bt317.2.1 bt317.2.2))) else (none)) else (none)) else ((pack_Reader_End.f x307000 x307001).bind fun bt307 => (if bt307.1 = true then (some false) else ((pack_Reader_Num.f k bt307.2.1 bt307.2.2).bind fun bt310 => (if bt310.1 = 0 then ((pack_Reader_Wide.f k bt310.2.1 bt310.2.2).bind fun bt313 => (some (bt313.1 == 0))) else (some false)))))
def rosarylaw3_PackCuts.j3 : Nat → Int → Int → Bool → ByteArray → List ByteArray → Int → Int → Bool → ByteArray → Bool → Option (Bool)
  | 0, _, _, _, _, _, _, _, _, _, _ => none
  | k + 1, x1, x11, x12, x15, x65, x66, x67, x93, x307000, x307001 => if x93 = true then (some false) else (if x11 > x1 then (if x15.toList = ([] : List UInt8) then ((pack_Reader_Bad.f x307000 x307001).bind fun bt323 => (if bt323.1 = true then (rosarylaw3_PackCuts.l1 k x1 x11 true x65 x66 (wrap64 (x67 + 1)) bt323.2.1 bt323.2.2) else (some false))) else (some false)) else (rosarylaw3_PackCuts.l1 k x1 x11 x12 x65 x66 (wrap64 (x67 + 1)) x307000 x307001))
end
def rosarylaw3_PackCuts.f (k : Nat) (l0 : List ByteArray) (a1 : Int) : Option (Bool) := if (l0.length : Int) > 20 then (rosarylaw3_PackCuts.j0 k l0 a1 true) else ((rosarylaw3_alive.f k).bind fun t296 => (rosarylaw3_PackCuts.j0 k l0 a1 (!t296)))
theorem rosarylaw3_PackCuts.mono_l : ∀ k, (∀ y0 y1 y2, LeO (rosarylaw3_PackCuts.j0 k y0 y1 y2) (rosarylaw3_PackCuts.j0 (k + 1) y0 y1 y2)) ∧ (∀ y0 y1 y2 y3 y4 y5, LeO (rosarylaw3_PackCuts.l0 k y0 y1 y2 y3 y4 y5) (rosarylaw3_PackCuts.l0 (k + 1) y0 y1 y2 y3 y4 y5)) ∧ (∀ y0 y1 y2 y3 y4 y5 y6 y7, LeO (rosarylaw3_PackCuts.l1 k y0 y1 y2 y3 y4 y5 y6 y7) (rosarylaw3_PackCuts.l1 (k + 1) y0 y1 y2 y3 y4 y5 y6 y7)) ∧ (∀ y0 y1 y2 y3 y4 y5 y6 y7 y8 y9, LeO (rosarylaw3_PackCuts.j3 k y0 y1 y2 y3 y4 y5 y6 y7 y8 y9) (rosarylaw3_PackCuts.j3 (k + 1) y0 y1 y2 y3 y4 y5 y6 y7 y8 y9))
  | 0 => ⟨fun _ _ _ r h => by simp [rosarylaw3_PackCuts.j0] at h, fun _ _ _ _ _ _ r h => by simp [rosarylaw3_PackCuts.l0] at h, fun _ _ _ _ _ _ _ _ r h => by simp [rosarylaw3_PackCuts.l1] at h, fun _ _ _ _ _ _ _ _ _ _ r h => by simp [rosarylaw3_PackCuts.j3] at h⟩
  | k + 1 => by
    obtain ⟨ih0, ih1, ih2, ih3⟩ := rosarylaw3_PackCuts.mono_l k
    refine ⟨?_, ?_, ?_, ?_⟩
    · intro y0 y1 y2
      unfold rosarylaw3_PackCuts.j0
      repeat' first
      | (with_reducible exact ih0 _ _ _)
      | (with_reducible exact ih1 _ _ _ _ _ _)
      | (with_reducible exact ih2 _ _ _ _ _ _ _ _)
      | (with_reducible exact ih3 _ _ _ _ _ _ _ _ _ _)
      | (with_reducible exact pack_Reader_Num.mono _ _ _)
      | (with_reducible exact pack_Reader_Text.mono _ _ _)
      | (with_reducible exact pack_Reader_Wide.mono _ _ _)
      | (with_reducible exact pack_Text.mono _ _)
      | (with_reducible exact rosarylaw3_alive.mono _)
      | (with_reducible exact LeO.refl _)
      | (with_reducible exact LeO.none _)
      | (with_reducible refine LeO.ite ?_ ?_)
      | (with_reducible refine LeO.bind ?_ (fun _ => ?_))
      | exact ih0 _ _ _
      | exact ih1 _ _ _ _ _ _
      | exact ih2 _ _ _ _ _ _ _ _
      | exact ih3 _ _ _ _ _ _ _ _ _ _
      | exact pack_Reader_Num.mono _ _ _
      | exact pack_Reader_Text.mono _ _ _
      | exact pack_Reader_Wide.mono _ _ _
      | exact pack_Text.mono _ _
      | exact rosarylaw3_alive.mono _
      | exact LeO.none _
      | refine LeO.ite ?_ ?_
      | refine LeO.bind ?_ (fun _ => ?_)
    · intro y0 y1 y2 y3 y4 y5
      unfold rosarylaw3_PackCuts.l0
      repeat' first
      | (with_reducible exact ih0 _ _ _)
      | (with_reducible exact ih1 _ _ _ _ _ _)
      | (with_reducible exact ih2 _ _ _ _ _ _ _ _)
      | (with_reducible exact ih3 _ _ _ _ _ _ _ _ _ _)
      | (with_reducible exact pack_Reader_Num.mono _ _ _)
      | (with_reducible exact pack_Reader_Text.mono _ _ _)
      | (with_reducible exact pack_Reader_Wide.mono _ _ _)
      | (with_reducible exact pack_Text.mono _ _)
      | (with_reducible exact rosarylaw3_alive.mono _)
      | (with_reducible exact LeO.refl _)
      | (with_reducible exact LeO.none _)
      | (with_reducible refine LeO.ite ?_ ?_)
      | (with_reducible refine LeO.bind ?_ (fun _ => ?_))
      | exact ih0 _ _ _
      | exact ih1 _ _ _ _ _ _
      | exact ih2 _ _ _ _ _ _ _ _
      | exact ih3 _ _ _ _ _ _ _ _ _ _
      | exact pack_Reader_Num.mono _ _ _
      | exact pack_Reader_Text.mono _ _ _
      | exact pack_Reader_Wide.mono _ _ _
      | exact pack_Text.mono _ _
      | exact rosarylaw3_alive.mono _
      | exact LeO.none _
      | refine LeO.ite ?_ ?_
      | refine LeO.bind ?_ (fun _ => ?_)
    · intro y0 y1 y2 y3 y4 y5 y6 y7
      unfold rosarylaw3_PackCuts.l1
      repeat' first
      | (with_reducible exact ih0 _ _ _)
      | (with_reducible exact ih1 _ _ _ _ _ _)
      | (with_reducible exact ih2 _ _ _ _ _ _ _ _)
      | (with_reducible exact ih3 _ _ _ _ _ _ _ _ _ _)
      | (with_reducible exact pack_Reader_Num.mono _ _ _)
      | (with_reducible exact pack_Reader_Text.mono _ _ _)
      | (with_reducible exact pack_Reader_Wide.mono _ _ _)
      | (with_reducible exact pack_Text.mono _ _)
      | (with_reducible exact rosarylaw3_alive.mono _)
      | (with_reducible exact LeO.refl _)
      | (with_reducible exact LeO.none _)
      | (with_reducible refine LeO.ite ?_ ?_)
      | (with_reducible refine LeO.bind ?_ (fun _ => ?_))
      | exact ih0 _ _ _
      | exact ih1 _ _ _ _ _ _
      | exact ih2 _ _ _ _ _ _ _ _
      | exact ih3 _ _ _ _ _ _ _ _ _ _
      | exact pack_Reader_Num.mono _ _ _
      | exact pack_Reader_Text.mono _ _ _
      | exact pack_Reader_Wide.mono _ _ _
      | exact pack_Text.mono _ _
      | exact rosarylaw3_alive.mono _
      | exact LeO.none _
      | refine LeO.ite ?_ ?_
      | refine LeO.bind ?_ (fun _ => ?_)
    · intro y0 y1 y2 y3 y4 y5 y6 y7 y8 y9
      unfold rosarylaw3_PackCuts.j3
      repeat' first
      | (with_reducible exact ih0 _ _ _)
      | (with_reducible exact ih1 _ _ _ _ _ _)
      | (with_reducible exact ih2 _ _ _ _ _ _ _ _)
      | (with_reducible exact ih3 _ _ _ _ _ _ _ _ _ _)
      | (with_reducible exact pack_Reader_Num.mono _ _ _)
      | (with_reducible exact pack_Reader_Text.mono _ _ _)
      | (with_reducible exact pack_Reader_Wide.mono _ _ _)
      | (with_reducible exact pack_Text.mono _ _)
      | (with_reducible exact rosarylaw3_alive.mono _)
      | (with_reducible exact LeO.refl _)
      | (with_reducible exact LeO.none _)
      | (with_reducible refine LeO.ite ?_ ?_)
      | (with_reducible refine LeO.bind ?_ (fun _ => ?_))
      | exact ih0 _ _ _
      | exact ih1 _ _ _ _ _ _
      | exact ih2 _ _ _ _ _ _ _ _
      | exact ih3 _ _ _ _ _ _ _ _ _ _
      | exact pack_Reader_Num.mono _ _ _
      | exact pack_Reader_Text.mono _ _ _
      | exact pack_Reader_Wide.mono _ _ _
      | exact pack_Text.mono _ _
      | exact rosarylaw3_alive.mono _
      | exact LeO.none _
      | refine LeO.ite ?_ ?_
      | refine LeO.bind ?_ (fun _ => ?_)
theorem rosarylaw3_PackCuts.mono : ∀ a0 a1 k, LeO (rosarylaw3_PackCuts.f k a0 a1) (rosarylaw3_PackCuts.f (k + 1) a0 a1) := by
  intro a0 a1 k
  obtain ⟨ih0, ih1, ih2, ih3⟩ := rosarylaw3_PackCuts.mono_l k
  unfold rosarylaw3_PackCuts.f
  repeat' first
      | (with_reducible exact ih0 _ _ _)
      | (with_reducible exact ih1 _ _ _ _ _ _)
      | (with_reducible exact ih2 _ _ _ _ _ _ _ _)
      | (with_reducible exact ih3 _ _ _ _ _ _ _ _ _ _)
      | (with_reducible exact pack_Reader_Num.mono _ _ _)
      | (with_reducible exact pack_Reader_Text.mono _ _ _)
      | (with_reducible exact pack_Reader_Wide.mono _ _ _)
      | (with_reducible exact pack_Text.mono _ _)
      | (with_reducible exact rosarylaw3_alive.mono _)
      | (with_reducible exact LeO.refl _)
      | (with_reducible exact LeO.none _)
      | (with_reducible refine LeO.ite ?_ ?_)
      | (with_reducible refine LeO.bind ?_ (fun _ => ?_))
      | exact ih0 _ _ _
      | exact ih1 _ _ _ _ _ _
      | exact ih2 _ _ _ _ _ _ _ _
      | exact ih3 _ _ _ _ _ _ _ _ _ _
      | exact pack_Reader_Num.mono _ _ _
      | exact pack_Reader_Text.mono _ _ _
      | exact pack_Reader_Wide.mono _ _ _
      | exact pack_Text.mono _ _
      | exact rosarylaw3_alive.mono _
      | exact LeO.none _
      | refine LeO.ite ?_ ?_
      | refine LeO.bind ?_ (fun _ => ?_)
set_option maxHeartbeats 8000000 in
set_option maxRecDepth 100000 in
theorem rosarylaw3_PackCuts.calls (k : Nat) (A0 : Option Addr) (c0 : Nat) (l0 : List ByteArray) (a1 : Int) (r : Bool) (w : World) (hr0 : Kd.C Kd.string w A0 l0.length l0) (hc0 : l0.length ≤ c0) (h : rosarylaw3_PackCuts.f k l0 a1 = some r) :
    Calls Try.prog 5 #[.slice A0 l0.length c0, .int .i64 a1] w fun e w' => e = .returned (.bool r) ∧ Below w.heap.size w w' := by
  have HR0 := Aside0.mk hr0
  have HC0 := Aside0.mk hc0
  clear hr0 hc0
  have HB := Aside0.mk (Below.refl w.heap.size w)
  have H : (if (l0.length : Int) > 20 then (rosarylaw3_PackCuts.j0 k l0 a1 true) else ((rosarylaw3_alive.f k).bind fun t296 => (rosarylaw3_PackCuts.j0 k l0 a1 (!t296)))) = some r := h
  clear h
  have HC3 := Aside0.mk H
  clear H
  go_enter Try.func5, Try.ntmps5
  go_upto_region 1 with (fail)
  go_cut [22] (fun v22 wc => ∃ (kq : Nat) (x22_2 : Bool), v22 = .bool x22_2 ∧ Aside0 (rosarylaw3_PackCuts.j0 kq l0 a1 x22_2 = some r) ∧ Aside0 (kq ≤ k) ∧ Aside0 (Below w.heap.size w wc))
  case first =>
    have H := HC3.out
    clear HC3
    by_cases c4 : (l0.length : Int) > 20
    · rw [if_pos c4] at H
      have c4b0 : decide (20 < (l0.length : Int)) = true := decide_eq_true c4
      have c4b1 : decide (20 < l0.length) = true := decide_eq_true (by omega)
      clear c4
      (first | rw [c4b0] | (simp only [i64_w, i32_w]; rw [c4b0]) | skip)
      have H' := Aside0.mk H
      clear H
      go_wp2
      go_meet
      case rel => exact ⟨_, (true), (by first | rfl | (simp; done) | (simp [*]; done)), H', ⟨by first | omega | exact Nat.le_refl _⟩, ⟨by repeat (first | (with_reducible first | exact HB.out | apply below_alloc | apply pw_below_drewN | apply below_drew1) | exact HB.out)⟩⟩
    · rw [if_neg c4] at H
      have c4b0 : decide (20 < (l0.length : Int)) = false := decide_eq_false c4
      have c4b1 : decide (20 < l0.length) = false := decide_eq_false (by omega)
      clear c4
      (first | rw [c4b0] | (simp only [i64_w, i32_w]; rw [c4b0]) | skip)
      replace H := Option.bind_eq_some_iff.mp H
      obtain ⟨t296, A50, H⟩ := H
      replace H : (rosarylaw3_PackCuts.j0 k l0 a1 (!t296)) = some r := H
      have A5 := Aside0.mk A50
      clear A50
      have H' := Aside0.mk H
      clear H
      go_wp2_with (first | (go_at_call 9; (with_reducible refine (rosarylaw3_alive.calls k  t296 _ A5.out).mono ?_); rintro e w6 ⟨rfl, hb⟩; have n0_ := Aside0.mk (below_step (by repeat (first | (with_reducible first | exact HB.out | apply below_alloc | apply pw_below_drewN | apply below_drew1) | exact HB.out)) hb); clear HB; have HB := n0_; clear n0_; (try clear hb); (try clear hb2); (try clear hk); (try clear hi)))
      go_meet
      case rel => exact ⟨_, (!t296), (by first | rfl | (simp; done) | (simp [*]; done)), H', ⟨by first | omega | exact Nat.le_refl _⟩, ⟨by repeat (first | (with_reducible first | exact HB.out | apply below_alloc | apply pw_below_drewN | apply below_drew1) | exact HB.out)⟩⟩
  case rest =>
    clear HC3
    try clear p2
    try clear c4
    try clear c4b0
    try clear c4b1
    try clear c5
    obtain ⟨kq, x22_2, rfl, HA, HJ2, HB⟩ := hcut
    cases kq with
    | zero => exact absurd HA.out (by simp [rosarylaw3_PackCuts.j0])
    | succ kj2 =>
      have H := HA.out
      clear HA
      simp only [rosarylaw3_PackCuts.j0] at H
      by_cases c7 : x22_2 = true
      · subst c7
        have H1 : ((rosarylaw3_alive.f kj2).bind fun t297 => (some t297)) = some r := by rw [if_pos rfl] at H; exact H
        clear H
        have H := H1
        clear H1
        replace H := Option.bind_eq_some_iff.mp H
        obtain ⟨t297, A80, H⟩ := H
        replace H : (some t297) = some r := H
        have A8 := Aside0.mk A80
        clear A80
        obtain rfl := Option.some.inj H
        go_wp2_with (first | ((with_reducible refine gate_callee (f := 9) rfl ?_); refine goesL_ (some 23) rfl rfl Try.func9 (by kernel_rfl) rfl #[] rfl (by (try simp only [List.map_toArray, List.map_cons, List.map_nil]); first | done | rfl | (simp only [List.length_drop, List.length_take]; rfl) | (rw [IntWalk.u64_in _ ⟨by omega, by omega⟩]; rfl)) ?_; (with_reducible refine (rosarylaw3_alive.calls kj2  t297 _ A8.out).mono ?_); rintro e w9 ⟨rfl, hb⟩; refine ⟨_, rfl, ?_⟩; have n0_ := Aside0.mk (below_step (by repeat (first | (with_reducible first | exact HB.out | apply below_alloc | apply pw_below_drewN | apply below_drew1) | exact HB.out)) hb); clear HB; have HB := n0_; clear n0_; (try clear hb); (try clear hb2); (try clear hk); (try clear hi)))
        go_ret
        exact ⟨by first | rfl | (simp [errW_none, errW_some] <;> rfl) | (simp [*, errW_none, errW_some] <;> rfl), by repeat (first | (with_reducible first | exact HB.out | apply below_alloc | apply pw_below_drewN | apply below_drew1) | exact HB.out)⟩
      · replace c7 := Bool.eq_false_iff.mpr c7
        subst c7
        have H1 : (rosarylaw3_PackCuts.l0 kj2 l0 a1 (⟨#[]⟩ : ByteArray) l0 (l0.length : Int) 0) = some r := by rw [if_neg (show ¬ (false = true) by decide)] at H; exact H
        clear H
        have H := H1
        clear H1
        have H' := Aside0.mk H
        clear H
        go_wp2
        go_loopg [5, 26] kj2 (fun kq v5 v26 w' => ∃ (x5_2 : ByteArray) (x26_2 : Int), v5 = .string x5_2 ∧ v26 = .int .i64 x26_2 ∧ Aside0 (rosarylaw3_PackCuts.l0 kq l0 a1 x5_2 l0 (l0.length : Int) x26_2 = some r) ∧ Aside0 (kq ≤ kj2) ∧ Aside0 (Below w.heap.size w w'))
        case atStart => exact ⟨((⟨#[]⟩ : ByteArray)), (0), (by first | rfl | (simp; done) | (simp [*]; done)), (by first | rfl | (simp; done) | (simp [*]; done)), H', ⟨Nat.le_refl _⟩, ⟨by repeat (first | (with_reducible first | exact HB.out | apply below_alloc | apply pw_below_drewN | apply below_drew1) | exact HB.out)⟩⟩
        case round =>
          clear H'
          try clear p2
          try clear c4
          try clear c4b0
          try clear c4b1
          try clear c5
          try clear c7
          try clear c9
          try clear p2
          obtain ⟨x5_2, x26_2, rfl, rfl, HA, HK2, HB⟩ := hrel
          cases gk with
          | zero => exact absurd HA.out (by simp [rosarylaw3_PackCuts.l0])
          | succ k2 =>
            have H := HA.out
            clear HA
            simp only [rosarylaw3_PackCuts.l0] at H
            by_cases c10 : x26_2 < (l0.length : Int)
            · rw [if_pos c10] at H
              have c10b0 : decide (x26_2 < (l0.length : Int)) = true := decide_eq_true c10
              clear c10
              by_cases c11 : 0 ≤ x26_2
              · rw [if_pos c11] at H
                have c11b0 : decide (0 ≤ x26_2) = true := decide_eq_true c11
                clear c11
                by_cases c12 : x26_2 < (l0.length : Int)
                · rw [if_pos c12] at H
                  have c12b0 : decide (x26_2 < (l0.length : Int)) = true := decide_eq_true c12
                  clear c12
                  replace H := Option.bind_eq_some_iff.mp H
                  obtain ⟨⟨t299, t300⟩, A130, H⟩ := H
                  replace H : (if t300 = true then (if x5_2.size + t299.size ≤ 9223372036854775807 then (rosarylaw3_PackCuts.l0 k2 l0 a1 (x5_2 ++ t299) l0 (l0.length : Int) (wrap64 (x26_2 + 1))) else (none)) else (some (decide (((rdOf ByteArray.empty l0 x26_2).size : Int) > 255)))) = some r := H
                  have A13 := Aside0.mk A130
                  clear A130
                  by_cases c14 : t300 = true
                  · subst c14
                    have H1 : (if x5_2.size + t299.size ≤ 9223372036854775807 then (rosarylaw3_PackCuts.l0 k2 l0 a1 (x5_2 ++ t299) l0 (l0.length : Int) (wrap64 (x26_2 + 1))) else (none)) = some r := by rw [if_pos rfl] at H; exact H
                    clear H
                    have H := H1
                    clear H1
                    by_cases c15 : x5_2.size + t299.size ≤ 9223372036854775807
                    · rw [if_pos c15] at H
                      have c15b0 := eq_true c15
                      have c15b1 : decide (x5_2.size + t299.size ≤ 9223372036854775807) = true := decide_eq_true c15
                      try have c15b2 : (9223372036854775807 < x5_2.size + t299.size) = False := eq_false (Nat.not_lt.2 c15)
                      have H' := Aside0.mk H
                      clear H
                      have p298 : 0 ≤ (x26_2 : Int) := of_decide_eq_true (by first | (with_reducible assumption) | assumption)
                      have q298 : x26_2 < (l0.length : Int) := of_decide_eq_true (by first | (with_reducible assumption) | assumption)
                      obtain ⟨ad298, e298, hx298_0⟩ := Kd.at_string HR0.out x26_2 p298 q298
                      cases e298
                      replace hx298_0 := (HB.out.cell (World.block_lt_of_cell? w _ hx298_0)).trans hx298_0
                      replace p298 := eq_true p298
                      replace q298 := eq_true q298
                      go_wp2_with (first | ((with_reducible refine gate_callee (f := 11) rfl ?_); refine goesL_ (some 32) rfl rfl Try.func11 (by kernel_rfl) rfl #[.string (rdOf ByteArray.empty l0 x26_2)] rfl (by (try simp only [List.map_toArray, List.map_cons, List.map_nil]); first | done | rfl | (simp only [List.length_drop, List.length_take]; rfl) | (rw [IntWalk.u64_in _ ⟨by omega, by omega⟩]; rfl)) ?_; (with_reducible refine (pack_Text.calls k2 (rdOf ByteArray.empty l0 x26_2) t299 true _ A13.out).mono ?_); rintro e w16 ⟨rfl, hb⟩; refine ⟨_, rfl, ?_⟩; have n0_ := Aside0.mk (below_step (by repeat (first | (with_reducible first | exact HB.out | apply below_alloc | apply pw_below_drewN | apply below_drew1) | exact HB.out)) hb); clear HB; have HB := n0_; clear n0_; (try clear hb); (try clear hb2); (try clear hk); (try clear hi)))
                      go_roundg k2
                      case measure => have := HJ2.out; have := HK2.out; omega
                      case rel => exact ⟨(x5_2 ++ t299), (wrap64 (x26_2 + 1)), (by first | rfl | (simp; done) | (simp [*]; done)), (by first | rfl | (simp; done) | (simp [*]; done)), H', ⟨by have := HJ2.out; have := HK2.out; omega⟩, ⟨by repeat (first | (with_reducible first | exact HB.out | apply below_alloc | apply pw_below_drewN | apply below_drew1) | exact HB.out)⟩⟩
                    · rw [if_neg c15] at H
                      exact absurd H (by simp)
                  · replace c14 := Bool.eq_false_iff.mpr c14
                    subst c14
                    have H1 : (some (decide (((rdOf ByteArray.empty l0 x26_2).size : Int) > 255))) = some r := by rw [if_neg (show ¬ (false = true) by decide)] at H; exact H
                    clear H
                    have H := H1
                    clear H1
                    obtain rfl := Option.some.inj H
                    have p298 : 0 ≤ (x26_2 : Int) := of_decide_eq_true (by first | (with_reducible assumption) | assumption)
                    have q298 : x26_2 < (l0.length : Int) := of_decide_eq_true (by first | (with_reducible assumption) | assumption)
                    obtain ⟨ad298, e298, hx298_0⟩ := Kd.at_string HR0.out x26_2 p298 q298
                    cases e298
                    replace hx298_0 := (HB.out.cell (World.block_lt_of_cell? w _ hx298_0)).trans hx298_0
                    replace p298 := eq_true p298
                    replace q298 := eq_true q298
                    go_wp2_with (first | ((with_reducible refine gate_callee (f := 11) rfl ?_); refine goesL_ (some 32) rfl rfl Try.func11 (by kernel_rfl) rfl #[.string (rdOf ByteArray.empty l0 x26_2)] rfl (by (try simp only [List.map_toArray, List.map_cons, List.map_nil]); first | done | rfl | (simp only [List.length_drop, List.length_take]; rfl) | (rw [IntWalk.u64_in _ ⟨by omega, by omega⟩]; rfl)) ?_; (with_reducible refine (pack_Text.calls k2 (rdOf ByteArray.empty l0 x26_2) t299 false _ A13.out).mono ?_); rintro e w17 ⟨rfl, hb⟩; refine ⟨_, rfl, ?_⟩; have n0_ := Aside0.mk (below_step (by repeat (first | (with_reducible first | exact HB.out | apply below_alloc | apply pw_below_drewN | apply below_drew1) | exact HB.out)) hb); clear HB; have HB := n0_; clear n0_; (try clear hb); (try clear hb2); (try clear hk); (try clear hi)))
                    go_ret
                    exact ⟨by first | rfl | (simp [errW_none, errW_some] <;> rfl) | (simp [*, errW_none, errW_some] <;> rfl), by repeat (first | (with_reducible first | exact HB.out | apply below_alloc | apply pw_below_drewN | apply below_drew1) | exact HB.out)⟩
                · rw [if_neg c12] at H
                  exact absurd H (by simp)
              · rw [if_neg c11] at H
                exact absurd H (by simp)
            · rw [if_neg c10] at H
              have c10b0 : decide (x26_2 < (l0.length : Int)) = false := decide_eq_false c10
              clear c10
              by_cases c18 : x5_2.toList = ([] : List UInt8)
              · rw [if_pos c18] at H
                have c18b0 : (x5_2.toList == ([] : List UInt8)) = true := beq_iff_eq.mpr c18
                have c18b1 : (x5_2.toList != ([] : List UInt8)) = false := bne_eq_false_iff_eq.mpr c18
                clear c18
                replace H := Option.bind_eq_some_iff.mp H
                obtain ⟨⟨t301, t302⟩, A190, H⟩ := H
                replace H : (some true) = some r := H
                have A19 := Aside0.mk A190
                clear A190
                obtain rfl := Option.some.inj H
                go_wp2_with (first | ((with_reducible refine gate_callee (f := 16) rfl ?_); refine goesL_ (some 47) rfl rfl Try.func16 (by kernel_rfl) rfl #[.string x5_2] rfl (by (try simp only [List.map_toArray, List.map_cons, List.map_nil]); first | done | rfl | (simp only [List.length_drop, List.length_take]; rfl) | (rw [IntWalk.u64_in _ ⟨by omega, by omega⟩]; rfl)) ?_; (with_reducible refine (pack_From.calls x5_2 t301 t302 w _ ?side1 A19.out).mono ?_); (case side1 => repeat (first | (with_reducible first | exact HB.out | apply below_alloc | apply pw_below_drewN | apply below_drew1) | exact HB.out)); rintro e w20 ⟨g303, rfl, hi, hb, hb2⟩; refine ⟨_, rfl, ?_⟩; have n0_ := Aside0.mk (hb); have n1_ := Aside0.mk (hi); clear HB; have HB := n0_; have HI303 := n1_; clear n0_ n1_; (try clear hb); (try clear hb2); (try clear hk); (try clear hi)))
                go_ret
                exact ⟨by first | rfl | (simp [errW_none, errW_some] <;> rfl) | (simp [*, errW_none, errW_some] <;> rfl), by repeat (first | (with_reducible first | exact HB.out | apply below_alloc | apply pw_below_drewN | apply below_drew1 | refine below_set ?_ (IsS50.ge HI303.out)) | exact HB.out)⟩
              · rw [if_neg c18] at H
                have c18b0 : (x5_2.toList == ([] : List UInt8)) = false := beq_eq_false_iff_ne.mpr c18
                have c18b1 : (x5_2.toList != ([] : List UInt8)) = true := bne_iff_ne.mpr c18
                by_cases c21 : (x5_2.size : Int) = 0
                · rw [if_pos c21] at H
                  exact absurd H (by simp)
                · rw [if_neg c21] at H
                  have c21b0 : ((x5_2.size : Int) == 0) = false := beq_eq_false_iff_ne.mpr c21
                  have c21b1 : ((x5_2.size : Int) != 0) = true := bne_iff_ne.mpr c21
                  obtain ⟨ji22, hji22⟩ : ∃ j_ : Int, (Int.tmod (wrap64 ((Int.tmod a1 (x5_2.size : Int)) + (x5_2.size : Int))) (x5_2.size : Int)) = j_ := ⟨_, rfl⟩
                  replace H : (if 0 ≤ (ji22) then (if (ji22) ≤ (x5_2.size : Int) then ((pack_From.f (x5_2.extract 0 ((ji22) : Int).toNat)).bind fun bt304 => (rosarylaw3_PackCuts.l1 k2 ji22 0 false l0 (l0.length : Int) 0 bt304.1 bt304.2)) else (none)) else (none)) = some r := by first | (rw [hji22] at H; exact H) | (simp only [hji22] at H ⊢; exact H)
                  by_cases c23 : 0 ≤ (ji22)
                  · rw [if_pos c23] at H
                    have c23b0 := eq_true c23
                    have c23b1 : decide (0 ≤ (ji22)) = true := decide_eq_true c23
                    clear c23
                    by_cases c24 : (ji22) ≤ (x5_2.size : Int)
                    · rw [if_pos c24] at H
                      have c24b0 := eq_true c24
                      have c24b1 : decide ((ji22) ≤ (x5_2.size : Int)) = true := decide_eq_true c24
                      clear c24
                      replace H := Option.bind_eq_some_iff.mp H
                      obtain ⟨⟨t304, t305⟩, A250, H⟩ := H
                      replace H : (rosarylaw3_PackCuts.l1 k2 ji22 0 false l0 (l0.length : Int) 0 t304 t305) = some r := H
                      have A25 := Aside0.mk A250
                      clear A250
                      have H' := Aside0.mk H
                      clear H
                      go_wp2_with (first | ((with_reducible refine gate_callee (f := 16) rfl ?_); refine goesL_ (some 62) rfl rfl Try.func16 (by kernel_rfl) rfl #[.string (x5_2.extract 0 ((ji22) : Int).toNat)] rfl (by (try simp only [List.map_toArray, List.map_cons, List.map_nil]); first | done | (simp only [hji22]; rfl) | rfl | (simp only [List.length_drop, List.length_take]; rfl) | (rw [IntWalk.u64_in _ ⟨by omega, by omega⟩]; rfl)) ?_; (with_reducible refine (pack_From.calls (x5_2.extract 0 ((ji22) : Int).toNat) t304 t305 w _ ?side1 A25.out).mono ?_); (case side1 => repeat (first | (with_reducible first | exact HB.out | apply below_alloc | apply pw_below_drewN | apply below_drew1) | exact HB.out)); rintro e w26 ⟨g306, rfl, hi, hb, hb2⟩; refine ⟨_, rfl, ?_⟩; have n0_ := Aside0.mk (hb); have n1_ := Aside0.mk (hi); clear HB; have HB := n0_; have HI306 := n1_; clear n0_ n1_; (try clear hb); (try clear hb2); (try clear hk); (try clear hi)))
                      go_loopg [11, 12, 67] k2 (fun kq v11 v12 v67 w' => ∃ (x11_3 : Int) (x12_3 : Bool) (x67_3 : Int) (x307000_3 : ByteArray) (x307001_3 : Bool), v11 = .int .i64 x11_3 ∧ v12 = .bool x12_3 ∧ v67 = .int .i64 x67_3 ∧ Aside0 (rosarylaw3_PackCuts.l1 kq ji22 x11_3 x12_3 l0 (l0.length : Int) x67_3 x307000_3 x307001_3 = some r) ∧ Aside0 (kq ≤ k2) ∧ Aside0 (IsS50 w w' g306 x307000_3 x307001_3) ∧ Aside0 (Below w.heap.size w w'))
                      case atStart => exact ⟨(0), (false), (0), (t304), (t305), (by first | rfl | (simp; done) | (simp [*]; done)), (by first | rfl | (simp; done) | (simp [*]; done)), (by first | rfl | (simp; done) | (simp [*]; done)), H', ⟨Nat.le_refl _⟩, ⟨by repeat (first | (with_reducible first | exact HI306.out | apply IsS50.alloc | apply IsS50.drewN | apply IsS50.drew | apply IsS50.set_0 | apply IsS50.set_1) | exact HI306.out)⟩, ⟨by repeat (first | (with_reducible first | exact HB.out | apply below_alloc | apply pw_below_drewN | apply below_drew1 | refine below_set ?_ (IsS50.ge HI306.out)) | exact HB.out)⟩⟩
                      case round =>
                        clear H'
                        try clear c1
                        try clear c2
                        try clear p2
                        try clear q2
                        try clear hx2
                        try clear c4
                        try clear c4b0
                        try clear c4b1
                        try clear c5
                        try clear p6
                        try clear c7
                        try clear c9
                        try clear c10
                        try clear c10b0
                        try clear c11
                        try clear c11b0
                        try clear c12
                        try clear c12b0
                        try clear c14
                        try clear c15
                        try clear c15b0
                        try clear c15b1
                        try clear c15b2
                        try clear c16
                        try clear c18
                        try clear c18b0
                        try clear c18b1
                        try clear c21
                        try clear c21b0
                        try clear c21b1
                        try clear c23
                        try clear c23b0
                        try clear c23b1
                        try clear c24
                        try clear c24b0
                        try clear c24b1
                        try clear hx298_0
                        try clear p2
                        try clear p298
                        try clear q298
                        obtain ⟨x11_3, x12_3, x67_3, x307000_3, x307001_3, rfl, rfl, rfl, HA, HK3, HI306, HB⟩ := hrel
                        cases gk with
                        | zero => exact absurd HA.out (by simp [rosarylaw3_PackCuts.l1])
                        | succ k3 =>
                          have H := HA.out
                          clear HA
                          simp only [rosarylaw3_PackCuts.l1] at H
                          by_cases c27 : x67_3 < (l0.length : Int)
                          · rw [if_pos c27] at H
                            have c27b0 : decide (x67_3 < (l0.length : Int)) = true := decide_eq_true c27
                            clear c27
                            by_cases c28 : 0 ≤ x67_3
                            · rw [if_pos c28] at H
                              have c28b0 : decide (0 ≤ x67_3) = true := decide_eq_true c28
                              clear c28
                              by_cases c29 : x67_3 < (l0.length : Int)
                              · rw [if_pos c29] at H
                                have c29b0 : decide (x67_3 < (l0.length : Int)) = true := decide_eq_true c29
                                clear c29
                                replace H := Option.bind_eq_some_iff.mp H
                                obtain ⟨⟨t317, t318, t319⟩, A300, H⟩ := H
                                replace H : (if (wrap64 (x11_3 + (wrap64 (1 + ((rdOf ByteArray.empty l0 x67_3).size : Int))))) ≤ ji22 then (if x12_3 = true then (rosarylaw3_PackCuts.j3 k3 ji22 (wrap64 (x11_3 + (wrap64 (1 + ((rdOf ByteArray.empty l0 x67_3).size : Int))))) x12_3 t317 l0 (l0.length : Int) x67_3 false t318 t319) else (if t317.toList = (rdOf ByteArray.empty l0 x67_3).toList then ((pack_Reader_Bad.f t318 t319).bind fun bt320 => (rosarylaw3_PackCuts.j3 k3 ji22 (wrap64 (x11_3 + (wrap64 (1 + ((rdOf ByteArray.empty l0 x67_3).size : Int))))) x12_3 t317 l0 (l0.length : Int) x67_3 bt320.1 bt320.2.1 bt320.2.2)) else (rosarylaw3_PackCuts.j3 k3 ji22 (wrap64 (x11_3 + (wrap64 (1 + ((rdOf ByteArray.empty l0 x67_3).size : Int))))) x12_3 t317 l0 (l0.length : Int) x67_3 true t318 t319))) else (rosarylaw3_PackCuts.j3 k3 ji22 (wrap64 (x11_3 + (wrap64 (1 + ((rdOf ByteArray.empty l0 x67_3).size : Int))))) x12_3 t317 l0 (l0.length : Int) x67_3 false t318 t319)) = some r := H
                                have A30 := Aside0.mk A300
                                clear A300
                                have HC31 := Aside0.mk H
                                clear H
                                have p316 : 0 ≤ (x67_3 : Int) := of_decide_eq_true (by first | (with_reducible assumption) | assumption)
                                have q316 : x67_3 < (l0.length : Int) := of_decide_eq_true (by first | (with_reducible assumption) | assumption)
                                obtain ⟨ad316, e316, hx316_0⟩ := Kd.at_string HR0.out x67_3 p316 q316
                                cases e316
                                replace hx316_0 := (HB.out.cell (World.block_lt_of_cell? w _ hx316_0)).trans hx316_0
                                replace p316 := eq_true p316
                                replace q316 := eq_true q316
                                go_upto_region 24 with (first | ((with_reducible refine gate_callee (f := 19) rfl ?_); refine goesL_ (some 77) rfl rfl Try.func19 (by kernel_rfl) rfl #[.pointer (some ⟨g306, 0, none⟩)] rfl (by (try simp only [List.map_toArray, List.map_cons, List.map_nil]); first | done | rfl | (simp only [List.length_drop, List.length_take]; rfl) | (rw [IntWalk.u64_in _ ⟨by omega, by omega⟩]; rfl)) ?_; (with_reducible refine (pack_Reader_Text.calls k3 g306 x307000_3 x307001_3 t317 t318 t319 w _ ?side1 ?side2 A30.out).mono ?_); (case side1 => repeat (first | (with_reducible first | exact HI306.out | apply IsS50.alloc | apply IsS50.drewN | apply IsS50.drew | apply IsS50.set_0 | apply IsS50.set_1) | exact HI306.out)); (case side2 => repeat (first | (with_reducible first | exact HB.out | apply below_alloc | apply pw_below_drewN | apply below_drew1 | refine below_set ?_ (IsS50.ge HI306.out)) | exact HB.out)); rintro e w32 ⟨rfl, hi, hb, hk⟩; refine ⟨_, rfl, ?_⟩; have n0_ := Aside0.mk (hb); have n1_ := Aside0.mk (hi); clear HB; clear HI306; have HB := n0_; have HI306 := n1_; clear n0_ n1_; (try clear hb); (try clear hb2); (try clear hk); (try clear hi)))
                                (try simp only [Act.put, List.setIfInBounds_toArray, List.set_cons_zero, List.set_cons_succ])
                                go_cut [93] (fun v93 wc => ∃ (kq : Nat) (x93_30 : Bool) (x307000_30 : ByteArray) (x307001_30 : Bool), v93 = .bool x93_30 ∧ Aside0 (rosarylaw3_PackCuts.j3 kq ji22 (wrap64 (x11_3 + (wrap64 (1 + ((rdOf ByteArray.empty l0 x67_3).size : Int))))) x12_3 t317 l0 (l0.length : Int) x67_3 x93_30 x307000_30 x307001_30 = some r) ∧ Aside0 (kq ≤ k3) ∧ Aside0 (IsS50 w wc g306 x307000_30 x307001_30) ∧ Aside0 (Below w.heap.size w wc))
                                case first =>
                                  have H := HC31.out
                                  clear HC31
                                  by_cases c33 : (wrap64 (x11_3 + (wrap64 (1 + ((rdOf ByteArray.empty l0 x67_3).size : Int))))) ≤ ji22
                                  · rw [if_pos c33] at H
                                    have c33b0 : decide ((wrap64 (x11_3 + (wrap64 (1 + ((rdOf ByteArray.empty l0 x67_3).size : Int))))) ≤ ji22) = true := decide_eq_true c33
                                    clear c33
                                    (first | rw [c33b0] | (simp only [i64_w, i32_w]; rw [c33b0]) | skip)
                                    by_cases c34 : x12_3 = true
                                    · subst c34
                                      have H1 : (rosarylaw3_PackCuts.j3 k3 ji22 (wrap64 (x11_3 + (wrap64 (1 + ((rdOf ByteArray.empty l0 x67_3).size : Int))))) true t317 l0 (l0.length : Int) x67_3 false t318 t319) = some r := by rw [if_pos rfl] at H; exact H
                                      clear H
                                      have H := H1
                                      clear H1
                                      have H' := Aside0.mk H
                                      clear H
                                      go_wp2
                                      go_meet
                                      case rel => exact ⟨_, (false), (t318), (t319), (by first | rfl | (simp; done) | (simp [*]; done)), H', ⟨by have := HJ2.out; have := HK2.out; have := HK3.out; first | omega | exact Nat.le_refl _⟩, ⟨by repeat (first | (with_reducible first | exact HI306.out | apply IsS50.alloc | apply IsS50.drewN | apply IsS50.drew | apply IsS50.set_0 | apply IsS50.set_1) | exact HI306.out)⟩, ⟨by repeat (first | (with_reducible first | exact HB.out | apply below_alloc | apply pw_below_drewN | apply below_drew1 | refine below_set ?_ (IsS50.ge HI306.out)) | exact HB.out)⟩⟩
                                    · replace c34 := Bool.eq_false_iff.mpr c34
                                      subst c34
                                      have H1 : (if t317.toList = (rdOf ByteArray.empty l0 x67_3).toList then ((pack_Reader_Bad.f t318 t319).bind fun bt320 => (rosarylaw3_PackCuts.j3 k3 ji22 (wrap64 (x11_3 + (wrap64 (1 + ((rdOf ByteArray.empty l0 x67_3).size : Int))))) false t317 l0 (l0.length : Int) x67_3 bt320.1 bt320.2.1 bt320.2.2)) else (rosarylaw3_PackCuts.j3 k3 ji22 (wrap64 (x11_3 + (wrap64 (1 + ((rdOf ByteArray.empty l0 x67_3).size : Int))))) false t317 l0 (l0.length : Int) x67_3 true t318 t319)) = some r := by rw [if_neg (show ¬ (false = true) by decide)] at H; exact H
                                      clear H
                                      have H := H1
                                      clear H1
                                      by_cases c35 : t317.toList = (rdOf ByteArray.empty l0 x67_3).toList
                                      · rw [if_pos c35] at H
                                        have c35b0 : (t317.toList == (rdOf ByteArray.empty l0 x67_3).toList) = true := beq_iff_eq.mpr c35
                                        have c35b1 : (t317.toList != (rdOf ByteArray.empty l0 x67_3).toList) = false := bne_eq_false_iff_eq.mpr c35
                                        clear c35
                                        replace H := Option.bind_eq_some_iff.mp H
                                        obtain ⟨⟨t320, t321, t322⟩, A360, H⟩ := H
                                        replace H : (rosarylaw3_PackCuts.j3 k3 ji22 (wrap64 (x11_3 + (wrap64 (1 + ((rdOf ByteArray.empty l0 x67_3).size : Int))))) false t317 l0 (l0.length : Int) x67_3 t320 t321 t322) = some r := H
                                        have A36 := Aside0.mk A360
                                        clear A360
                                        have H' := Aside0.mk H
                                        clear H
                                        go_wp2_with (first | (go_at_call 23; (with_reducible refine (pack_Reader_Bad.calls g306 t318 t319 t320 t321 t322 w _ ?side1 ?side2 A36.out).mono ?_); (case side1 => repeat (first | (with_reducible first | exact HI306.out | apply IsS50.alloc | apply IsS50.drewN | apply IsS50.drew | apply IsS50.set_0 | apply IsS50.set_1) | exact HI306.out)); (case side2 => repeat (first | (with_reducible first | exact HB.out | apply below_alloc | apply pw_below_drewN | apply below_drew1 | refine below_set ?_ (IsS50.ge HI306.out)) | exact HB.out)); rintro e w37 ⟨rfl, hi, hb, hk⟩; have n0_ := Aside0.mk (hb); have n1_ := Aside0.mk (hi); clear HB; clear HI306; have HB := n0_; have HI306 := n1_; clear n0_ n1_; (try clear hb); (try clear hb2); (try clear hk); (try clear hi)))
                                        go_meet
                                        case rel => exact ⟨_, (t320), (t321), (t322), (by first | rfl | (simp; done) | (simp [*]; done)), H', ⟨by have := HJ2.out; have := HK2.out; have := HK3.out; first | omega | exact Nat.le_refl _⟩, ⟨by repeat (first | (with_reducible first | exact HI306.out | apply IsS50.alloc | apply IsS50.drewN | apply IsS50.drew | apply IsS50.set_0 | apply IsS50.set_1) | exact HI306.out)⟩, ⟨by repeat (first | (with_reducible first | exact HB.out | apply below_alloc | apply pw_below_drewN | apply below_drew1 | refine below_set ?_ (IsS50.ge HI306.out)) | exact HB.out)⟩⟩
                                      · rw [if_neg c35] at H
                                        have c35b0 : (t317.toList == (rdOf ByteArray.empty l0 x67_3).toList) = false := beq_eq_false_iff_ne.mpr c35
                                        have c35b1 : (t317.toList != (rdOf ByteArray.empty l0 x67_3).toList) = true := bne_iff_ne.mpr c35
                                        have H' := Aside0.mk H
                                        clear H
                                        go_wp2
                                        go_meet
                                        case rel => exact ⟨_, (true), (t318), (t319), (by first | rfl | (simp; done) | (simp [*]; done)), H', ⟨by have := HJ2.out; have := HK2.out; have := HK3.out; first | omega | exact Nat.le_refl _⟩, ⟨by repeat (first | (with_reducible first | exact HI306.out | apply IsS50.alloc | apply IsS50.drewN | apply IsS50.drew | apply IsS50.set_0 | apply IsS50.set_1) | exact HI306.out)⟩, ⟨by repeat (first | (with_reducible first | exact HB.out | apply below_alloc | apply pw_below_drewN | apply below_drew1 | refine below_set ?_ (IsS50.ge HI306.out)) | exact HB.out)⟩⟩
                                  · rw [if_neg c33] at H
                                    have c33b0 : decide ((wrap64 (x11_3 + (wrap64 (1 + ((rdOf ByteArray.empty l0 x67_3).size : Int))))) ≤ ji22) = false := decide_eq_false c33
                                    clear c33
                                    (first | rw [c33b0] | (simp only [i64_w, i32_w]; rw [c33b0]) | skip)
                                    have H' := Aside0.mk H
                                    clear H
                                    go_wp2
                                    go_meet
                                    case rel => exact ⟨_, (false), (t318), (t319), (by first | rfl | (simp; done) | (simp [*]; done)), H', ⟨by have := HJ2.out; have := HK2.out; have := HK3.out; first | omega | exact Nat.le_refl _⟩, ⟨by repeat (first | (with_reducible first | exact HI306.out | apply IsS50.alloc | apply IsS50.drewN | apply IsS50.drew | apply IsS50.set_0 | apply IsS50.set_1) | exact HI306.out)⟩, ⟨by repeat (first | (with_reducible first | exact HB.out | apply below_alloc | apply pw_below_drewN | apply below_drew1 | refine below_set ?_ (IsS50.ge HI306.out)) | exact HB.out)⟩⟩
                                case rest =>
                                  clear HC31
                                  try clear c1
                                  try clear c2
                                  try clear p2
                                  try clear q2
                                  try clear hx2
                                  try clear c3
                                  try clear p3
                                  try clear q3
                                  try clear hx3
                                  try clear c4
                                  try clear c4b0
                                  try clear c4b1
                                  try clear c5
                                  try clear p6
                                  try clear c7
                                  try clear c9
                                  try clear c10
                                  try clear c10b0
                                  try clear c11
                                  try clear c11b0
                                  try clear c12
                                  try clear c12b0
                                  try clear c14
                                  try clear c15
                                  try clear c15b0
                                  try clear c15b1
                                  try clear c15b2
                                  try clear c16
                                  try clear c18
                                  try clear c18b0
                                  try clear c18b1
                                  try clear c19
                                  try clear c21
                                  try clear c21b0
                                  try clear c21b1
                                  try clear c23
                                  try clear c23b0
                                  try clear c23b1
                                  try clear c24
                                  try clear c24b0
                                  try clear c24b1
                                  try clear c27
                                  try clear c27b0
                                  try clear c28
                                  try clear c28b0
                                  try clear c29
                                  try clear c29b0
                                  try clear p29
                                  try clear q29
                                  try clear hx29
                                  try clear p31
                                  try clear q31
                                  try clear hx31
                                  try clear c33
                                  try clear c33b0
                                  try clear c34
                                  try clear c35
                                  try clear c35b0
                                  try clear c35b1
                                  try clear hx298_0
                                  try clear hx316_0
                                  try clear p2
                                  try clear p298
                                  try clear p316
                                  try clear p6
                                  try clear q2
                                  try clear q298
                                  try clear q316
                                  obtain ⟨kq, x93_30, x307000_30, x307001_30, rfl, HA, HJ30, HI306, HB⟩ := hcut
                                  cases kq with
                                  | zero => exact absurd HA.out (by simp [rosarylaw3_PackCuts.j3])
                                  | succ kj30 =>
                                    have H := HA.out
                                    clear HA
                                    simp only [rosarylaw3_PackCuts.j3] at H
                                    by_cases c38 : x93_30 = true
                                    · subst c38
                                      have H1 : (some false) = some r := by rw [if_pos rfl] at H; exact H
                                      clear H
                                      have H := H1
                                      clear H1
                                      obtain rfl := Option.some.inj H
                                      go_wp2
                                      go_ret
                                      exact ⟨by first | rfl | (simp [errW_none, errW_some] <;> rfl) | (simp only [← hji22]; first | rfl | (simp [errW_none, errW_some] <;> rfl)) | (simp [*, errW_none, errW_some] <;> rfl), by repeat (first | (with_reducible first | exact HB.out | apply below_alloc | apply pw_below_drewN | apply below_drew1 | refine below_set ?_ (IsS50.ge HI306.out)) | exact HB.out)⟩
                                    · replace c38 := Bool.eq_false_iff.mpr c38
                                      subst c38
                                      have H1 : (if (wrap64 (x11_3 + (wrap64 (1 + ((rdOf ByteArray.empty l0 x67_3).size : Int))))) > ji22 then (if t317.toList = ([] : List UInt8) then ((pack_Reader_Bad.f x307000_30 x307001_30).bind fun bt323 => (if bt323.1 = true then (rosarylaw3_PackCuts.l1 kj30 ji22 (wrap64 (x11_3 + (wrap64 (1 + ((rdOf ByteArray.empty l0 x67_3).size : Int))))) true l0 (l0.length : Int) (wrap64 (x67_3 + 1)) bt323.2.1 bt323.2.2) else (some false))) else (some false)) else (rosarylaw3_PackCuts.l1 kj30 ji22 (wrap64 (x11_3 + (wrap64 (1 + ((rdOf ByteArray.empty l0 x67_3).size : Int))))) x12_3 l0 (l0.length : Int) (wrap64 (x67_3 + 1)) x307000_30 x307001_30)) = some r := by rw [if_neg (show ¬ (false = true) by decide)] at H; exact H
                                      clear H
                                      have H := H1
                                      clear H1
                                      by_cases c39 : (wrap64 (x11_3 + (wrap64 (1 + ((rdOf ByteArray.empty l0 x67_3).size : Int))))) > ji22
                                      · rw [if_pos c39] at H
                                        have c39b0 : decide (ji22 < (wrap64 (x11_3 + (wrap64 (1 + ((rdOf ByteArray.empty l0 x67_3).size : Int)))))) = true := decide_eq_true c39
                                        clear c39
                                        by_cases c40 : t317.toList = ([] : List UInt8)
                                        · rw [if_pos c40] at H
                                          have c40b0 : (t317.toList == ([] : List UInt8)) = true := beq_iff_eq.mpr c40
                                          have c40b1 : (t317.toList != ([] : List UInt8)) = false := bne_eq_false_iff_eq.mpr c40
                                          clear c40
                                          replace H := Option.bind_eq_some_iff.mp H
                                          obtain ⟨⟨t323, t324, t325⟩, A410, H⟩ := H
                                          replace H : (if t323 = true then (rosarylaw3_PackCuts.l1 kj30 ji22 (wrap64 (x11_3 + (wrap64 (1 + ((rdOf ByteArray.empty l0 x67_3).size : Int))))) true l0 (l0.length : Int) (wrap64 (x67_3 + 1)) t324 t325) else (some false)) = some r := H
                                          have A41 := Aside0.mk A410
                                          clear A410
                                          by_cases c42 : t323 = true
                                          · subst c42
                                            have H1 : (rosarylaw3_PackCuts.l1 kj30 ji22 (wrap64 (x11_3 + (wrap64 (1 + ((rdOf ByteArray.empty l0 x67_3).size : Int))))) true l0 (l0.length : Int) (wrap64 (x67_3 + 1)) t324 t325) = some r := by rw [if_pos rfl] at H; exact H
                                            clear H
                                            have H := H1
                                            clear H1
                                            have H' := Aside0.mk H
                                            clear H
                                            go_wp2_with (first | (go_at_call 23; (with_reducible refine (pack_Reader_Bad.calls g306 x307000_30 x307001_30 true t324 t325 w _ ?side1 ?side2 A41.out).mono ?_); (case side1 => repeat (first | (with_reducible first | exact HI306.out | apply IsS50.alloc | apply IsS50.drewN | apply IsS50.drew | apply IsS50.set_0 | apply IsS50.set_1) | exact HI306.out)); (case side2 => repeat (first | (with_reducible first | exact HB.out | apply below_alloc | apply pw_below_drewN | apply below_drew1 | refine below_set ?_ (IsS50.ge HI306.out)) | exact HB.out)); rintro e w43 ⟨rfl, hi, hb, hk⟩; have n0_ := Aside0.mk (hb); have n1_ := Aside0.mk (hi); clear HB; clear HI306; have HB := n0_; have HI306 := n1_; clear n0_ n1_; (try clear hb); (try clear hb2); (try clear hk); (try clear hi)))
                                            go_roundg kj30
                                            case measure => have := HJ2.out; have := HK2.out; have := HK3.out; have := HJ30.out; omega
                                            case rel => exact ⟨((wrap64 (x11_3 + (wrap64 (1 + ((rdOf ByteArray.empty l0 x67_3).size : Int)))))), (true), (wrap64 (x67_3 + 1)), (t324), (t325), (by first | rfl | (simp; done) | (simp [*]; done)), (by first | rfl | (simp; done) | (simp [*]; done)), (by first | rfl | (simp; done) | (simp [*]; done)), H', ⟨by have := HJ2.out; have := HK2.out; have := HK3.out; have := HJ30.out; omega⟩, ⟨by repeat (first | (with_reducible first | exact HI306.out | apply IsS50.alloc | apply IsS50.drewN | apply IsS50.drew | apply IsS50.set_0 | apply IsS50.set_1) | exact HI306.out)⟩, ⟨by repeat (first | (with_reducible first | exact HB.out | apply below_alloc | apply pw_below_drewN | apply below_drew1 | refine below_set ?_ (IsS50.ge HI306.out)) | exact HB.out)⟩⟩
                                          · replace c42 := Bool.eq_false_iff.mpr c42
                                            subst c42
                                            have H1 : (some false) = some r := by rw [if_neg (show ¬ (false = true) by decide)] at H; exact H
                                            clear H
                                            have H := H1
                                            clear H1
                                            obtain rfl := Option.some.inj H
                                            go_wp2_with (first | (go_at_call 23; (with_reducible refine (pack_Reader_Bad.calls g306 x307000_30 x307001_30 false t324 t325 w _ ?side1 ?side2 A41.out).mono ?_); (case side1 => repeat (first | (with_reducible first | exact HI306.out | apply IsS50.alloc | apply IsS50.drewN | apply IsS50.drew | apply IsS50.set_0 | apply IsS50.set_1) | exact HI306.out)); (case side2 => repeat (first | (with_reducible first | exact HB.out | apply below_alloc | apply pw_below_drewN | apply below_drew1 | refine below_set ?_ (IsS50.ge HI306.out)) | exact HB.out)); rintro e w44 ⟨rfl, hi, hb, hk⟩; have n0_ := Aside0.mk (hb); have n1_ := Aside0.mk (hi); clear HB; clear HI306; have HB := n0_; have HI306 := n1_; clear n0_ n1_; (try clear hb); (try clear hb2); (try clear hk); (try clear hi)))
                                            go_ret
                                            exact ⟨by first | rfl | (simp [errW_none, errW_some] <;> rfl) | (simp only [← hji22]; first | rfl | (simp [errW_none, errW_some] <;> rfl)) | (simp [*, errW_none, errW_some] <;> rfl), by repeat (first | (with_reducible first | exact HB.out | apply below_alloc | apply pw_below_drewN | apply below_drew1 | refine below_set ?_ (IsS50.ge HI306.out)) | exact HB.out)⟩
                                        · rw [if_neg c40] at H
                                          have c40b0 : (t317.toList == ([] : List UInt8)) = false := beq_eq_false_iff_ne.mpr c40
                                          have c40b1 : (t317.toList != ([] : List UInt8)) = true := bne_iff_ne.mpr c40
                                          obtain rfl := Option.some.inj H
                                          go_wp2
                                          go_ret
                                          exact ⟨by first | rfl | (simp [errW_none, errW_some] <;> rfl) | (simp only [← hji22]; first | rfl | (simp [errW_none, errW_some] <;> rfl)) | (simp [*, errW_none, errW_some] <;> rfl), by repeat (first | (with_reducible first | exact HB.out | apply below_alloc | apply pw_below_drewN | apply below_drew1 | refine below_set ?_ (IsS50.ge HI306.out)) | exact HB.out)⟩
                                      · rw [if_neg c39] at H
                                        have c39b0 : decide (ji22 < (wrap64 (x11_3 + (wrap64 (1 + ((rdOf ByteArray.empty l0 x67_3).size : Int)))))) = false := decide_eq_false c39
                                        clear c39
                                        have H' := Aside0.mk H
                                        clear H
                                        go_wp2
                                        go_roundg kj30
                                        case measure => have := HJ2.out; have := HK2.out; have := HK3.out; have := HJ30.out; omega
                                        case rel => exact ⟨((wrap64 (x11_3 + (wrap64 (1 + ((rdOf ByteArray.empty l0 x67_3).size : Int)))))), (x12_3), (wrap64 (x67_3 + 1)), (x307000_30), (x307001_30), (by first | rfl | (simp; done) | (simp [*]; done)), (by first | rfl | (simp; done) | (simp [*]; done)), (by first | rfl | (simp; done) | (simp [*]; done)), H', ⟨by have := HJ2.out; have := HK2.out; have := HK3.out; have := HJ30.out; omega⟩, ⟨by repeat (first | (with_reducible first | exact HI306.out | apply IsS50.alloc | apply IsS50.drewN | apply IsS50.drew | apply IsS50.set_0 | apply IsS50.set_1) | exact HI306.out)⟩, ⟨by repeat (first | (with_reducible first | exact HB.out | apply below_alloc | apply pw_below_drewN | apply below_drew1 | refine below_set ?_ (IsS50.ge HI306.out)) | exact HB.out)⟩⟩
                              · rw [if_neg c29] at H
                                exact absurd H (by simp)
                            · rw [if_neg c28] at H
                              exact absurd H (by simp)
                          · rw [if_neg c27] at H
                            have c27b0 : decide (x67_3 < (l0.length : Int)) = false := decide_eq_false c27
                            clear c27
                            replace H := Option.bind_eq_some_iff.mp H
                            obtain ⟨⟨t307, t308, t309⟩, A450, H⟩ := H
                            replace H : (if t307 = true then (some false) else ((pack_Reader_Num.f k3 t308 t309).bind fun bt310 => (if bt310.1 = 0 then ((pack_Reader_Wide.f k3 bt310.2.1 bt310.2.2).bind fun bt313 => (some (bt313.1 == 0))) else (some false)))) = some r := H
                            have A45 := Aside0.mk A450
                            clear A450
                            by_cases c46 : t307 = true
                            · subst c46
                              have H1 : (some false) = some r := by rw [if_pos rfl] at H; exact H
                              clear H
                              have H := H1
                              clear H1
                              obtain rfl := Option.some.inj H
                              go_wp2_with (first | ((with_reducible refine gate_callee (f := 24) rfl ?_); refine goesL_ (some 106) rfl rfl Try.func24 (by kernel_rfl) rfl #[.pointer (some ⟨g306, 0, none⟩)] rfl (by (try simp only [List.map_toArray, List.map_cons, List.map_nil]); first | done | rfl | (simp only [List.length_drop, List.length_take]; rfl) | (rw [IntWalk.u64_in _ ⟨by omega, by omega⟩]; rfl)) ?_; (with_reducible refine (pack_Reader_End.calls g306 x307000_3 x307001_3 true t308 t309 w _ ?side1 ?side2 A45.out).mono ?_); (case side1 => repeat (first | (with_reducible first | exact HI306.out | apply IsS50.alloc | apply IsS50.drewN | apply IsS50.drew | apply IsS50.set_0 | apply IsS50.set_1) | exact HI306.out)); (case side2 => repeat (first | (with_reducible first | exact HB.out | apply below_alloc | apply pw_below_drewN | apply below_drew1 | refine below_set ?_ (IsS50.ge HI306.out)) | exact HB.out)); rintro e w47 ⟨rfl, hi, hb, hk⟩; refine ⟨_, rfl, ?_⟩; have n0_ := Aside0.mk (hb); have n1_ := Aside0.mk (hi); clear HB; clear HI306; have HB := n0_; have HI306 := n1_; clear n0_ n1_; (try clear hb); (try clear hb2); (try clear hk); (try clear hi)))
                              go_ret
                              exact ⟨by first | rfl | (simp [errW_none, errW_some] <;> rfl) | (simp only [← hji22]; first | rfl | (simp [errW_none, errW_some] <;> rfl)) | (simp [*, errW_none, errW_some] <;> rfl), by repeat (first | (with_reducible first | exact HB.out | apply below_alloc | apply pw_below_drewN | apply below_drew1 | refine below_set ?_ (IsS50.ge HI306.out)) | exact HB.out)⟩
                            · replace c46 := Bool.eq_false_iff.mpr c46
                              subst c46
                              have H1 : ((pack_Reader_Num.f k3 t308 t309).bind fun bt310 => (if bt310.1 = 0 then ((pack_Reader_Wide.f k3 bt310.2.1 bt310.2.2).bind fun bt313 => (some (bt313.1 == 0))) else (some false))) = some r := by rw [if_neg (show ¬ (false = true) by decide)] at H; exact H
                              clear H
                              have H := H1
                              clear H1
                              replace H := Option.bind_eq_some_iff.mp H
                              obtain ⟨⟨t310, t311, t312⟩, A480, H⟩ := H
                              replace H : (if t310 = 0 then ((pack_Reader_Wide.f k3 t311 t312).bind fun bt313 => (some (bt313.1 == 0))) else (some false)) = some r := H
                              have A48 := Aside0.mk A480
                              clear A480
                              by_cases c49 : t310 = 0
                              · rw [if_pos c49] at H
                                have c49b0 : (t310 == 0) = true := beq_iff_eq.mpr c49
                                have c49b1 : (t310 != 0) = false := bne_eq_false_iff_eq.mpr c49
                                clear c49
                                replace H := Option.bind_eq_some_iff.mp H
                                obtain ⟨⟨t313, t314, t315⟩, A500, H⟩ := H
                                replace H : (some (t313 == 0)) = some r := H
                                have A50 := Aside0.mk A500
                                clear A500
                                obtain rfl := Option.some.inj H
                                go_wp2_with (first | ((with_reducible refine gate_callee (f := 24) rfl ?_); refine goesL_ (some 106) rfl rfl Try.func24 (by kernel_rfl) rfl #[.pointer (some ⟨g306, 0, none⟩)] rfl (by (try simp only [List.map_toArray, List.map_cons, List.map_nil]); first | done | rfl | (simp only [List.length_drop, List.length_take]; rfl) | (rw [IntWalk.u64_in _ ⟨by omega, by omega⟩]; rfl)) ?_; (with_reducible refine (pack_Reader_End.calls g306 x307000_3 x307001_3 false t308 t309 w _ ?side1 ?side2 A45.out).mono ?_); (case side1 => repeat (first | (with_reducible first | exact HI306.out | apply IsS50.alloc | apply IsS50.drewN | apply IsS50.drew | apply IsS50.set_0 | apply IsS50.set_1) | exact HI306.out)); (case side2 => repeat (first | (with_reducible first | exact HB.out | apply below_alloc | apply pw_below_drewN | apply below_drew1 | refine below_set ?_ (IsS50.ge HI306.out)) | exact HB.out)); rintro e w51 ⟨rfl, hi, hb, hk⟩; refine ⟨_, rfl, ?_⟩; have n0_ := Aside0.mk (hb); have n1_ := Aside0.mk (hi); clear HB; clear HI306; have HB := n0_; have HI306 := n1_; clear n0_ n1_; (try clear hb); (try clear hb2); (try clear hk); (try clear hi)) | (go_at_call 17; (with_reducible refine (pack_Reader_Num.calls k3 g306 t308 t309 t310 t311 t312 w _ ?side1 ?side2 A48.out).mono ?_); (case side1 => repeat (first | (with_reducible first | exact HI306.out | apply IsS50.alloc | apply IsS50.drewN | apply IsS50.drew | apply IsS50.set_0 | apply IsS50.set_1) | exact HI306.out)); (case side2 => repeat (first | (with_reducible first | exact HB.out | apply below_alloc | apply pw_below_drewN | apply below_drew1 | refine below_set ?_ (IsS50.ge HI306.out)) | exact HB.out)); rintro e w52 ⟨rfl, hi, hb, hk⟩; have n0_ := Aside0.mk (hb); have n1_ := Aside0.mk (hi); clear HB; clear HI306; have HB := n0_; have HI306 := n1_; clear n0_ n1_; (try clear hb); (try clear hb2); (try clear hk); (try clear hi)) | (go_at_call 21; (with_reducible refine (pack_Reader_Wide.calls k3 g306 t311 t312 t313 t314 t315 w _ ?side1 ?side2 A50.out).mono ?_); (case side1 => repeat (first | (with_reducible first | exact HI306.out | apply IsS50.alloc | apply IsS50.drewN | apply IsS50.drew | apply IsS50.set_0 | apply IsS50.set_1) | exact HI306.out)); (case side2 => repeat (first | (with_reducible first | exact HB.out | apply below_alloc | apply pw_below_drewN | apply below_drew1 | refine below_set ?_ (IsS50.ge HI306.out)) | exact HB.out)); rintro e w53 ⟨rfl, hi, hb, hk⟩; have n0_ := Aside0.mk (hb); have n1_ := Aside0.mk (hi); clear HB; clear HI306; have HB := n0_; have HI306 := n1_; clear n0_ n1_; (try clear hb); (try clear hb2); (try clear hk); (try clear hi)))
                                go_ret
                                exact ⟨by first | rfl | (simp [errW_none, errW_some] <;> rfl) | (simp only [← hji22]; first | rfl | (simp [errW_none, errW_some] <;> rfl)) | (simp [*, errW_none, errW_some] <;> rfl), by repeat (first | (with_reducible first | exact HB.out | apply below_alloc | apply pw_below_drewN | apply below_drew1 | refine below_set ?_ (IsS50.ge HI306.out)) | exact HB.out)⟩
                              · rw [if_neg c49] at H
                                have c49b0 : (t310 == 0) = false := beq_eq_false_iff_ne.mpr c49
                                have c49b1 : (t310 != 0) = true := bne_iff_ne.mpr c49
                                obtain rfl := Option.some.inj H
                                go_wp2_with (first | ((with_reducible refine gate_callee (f := 24) rfl ?_); refine goesL_ (some 106) rfl rfl Try.func24 (by kernel_rfl) rfl #[.pointer (some ⟨g306, 0, none⟩)] rfl (by (try simp only [List.map_toArray, List.map_cons, List.map_nil]); first | done | rfl | (simp only [List.length_drop, List.length_take]; rfl) | (rw [IntWalk.u64_in _ ⟨by omega, by omega⟩]; rfl)) ?_; (with_reducible refine (pack_Reader_End.calls g306 x307000_3 x307001_3 false t308 t309 w _ ?side1 ?side2 A45.out).mono ?_); (case side1 => repeat (first | (with_reducible first | exact HI306.out | apply IsS50.alloc | apply IsS50.drewN | apply IsS50.drew | apply IsS50.set_0 | apply IsS50.set_1) | exact HI306.out)); (case side2 => repeat (first | (with_reducible first | exact HB.out | apply below_alloc | apply pw_below_drewN | apply below_drew1 | refine below_set ?_ (IsS50.ge HI306.out)) | exact HB.out)); rintro e w54 ⟨rfl, hi, hb, hk⟩; refine ⟨_, rfl, ?_⟩; have n0_ := Aside0.mk (hb); have n1_ := Aside0.mk (hi); clear HB; clear HI306; have HB := n0_; have HI306 := n1_; clear n0_ n1_; (try clear hb); (try clear hb2); (try clear hk); (try clear hi)) | (go_at_call 17; (with_reducible refine (pack_Reader_Num.calls k3 g306 t308 t309 t310 t311 t312 w _ ?side1 ?side2 A48.out).mono ?_); (case side1 => repeat (first | (with_reducible first | exact HI306.out | apply IsS50.alloc | apply IsS50.drewN | apply IsS50.drew | apply IsS50.set_0 | apply IsS50.set_1) | exact HI306.out)); (case side2 => repeat (first | (with_reducible first | exact HB.out | apply below_alloc | apply pw_below_drewN | apply below_drew1 | refine below_set ?_ (IsS50.ge HI306.out)) | exact HB.out)); rintro e w55 ⟨rfl, hi, hb, hk⟩; have n0_ := Aside0.mk (hb); have n1_ := Aside0.mk (hi); clear HB; clear HI306; have HB := n0_; have HI306 := n1_; clear n0_ n1_; (try clear hb); (try clear hb2); (try clear hk); (try clear hi)))
                                go_ret
                                exact ⟨by first | rfl | (simp [errW_none, errW_some] <;> rfl) | (simp only [← hji22]; first | rfl | (simp [errW_none, errW_some] <;> rfl)) | (simp [*, errW_none, errW_some] <;> rfl), by repeat (first | (with_reducible first | exact HB.out | apply below_alloc | apply pw_below_drewN | apply below_drew1 | refine below_set ?_ (IsS50.ge HI306.out)) | exact HB.out)⟩
                    · rw [if_neg c24] at H
                      exact absurd H (by simp)
                  · rw [if_neg c23] at H
                    exact absurd H (by simp)

/-- THE ONE PURE STATEMENT of rosarylaw3_PackCuts: yours. -/
def rosarylaw3_PackCuts.Pure : Prop := ∀ (l0 : List ByteArray) (a1 : Int), (l0.length * 16 ≤ 140737488351232 ∧ l0.length ≤ maxLen ∧ ∀ y ∈ l0, y.size ≤ 140737488351232) → ((Lit.int .i64 a1).wf = true) → ∃ k, rosarylaw3_PackCuts.f k l0 a1 = some true

end Go.Proofs.Ytnfdgbapionojaa.P
