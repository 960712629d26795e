-- Printed by this session's program wip/lprint.py (a changed copy of the kit's print), out of the translation. Not trusted: Lean checks it.
import Derived.Test.YtjenfohogjomdaaRows
import Derived.Test.YtjenfohogjomdaaPx12
import Derived.Test.YtjenfohogjomdaaPureRatioNever
import Derived.Test.YtjenfohogjomdaaWOpen
import Derived.WalkKit
import Derived.ProofKit
import Derived.OpenShut
import Derived.ShutString
import Derived.ChangeOld
import Derived.Below
import Derived.SizedLaws
namespace Go.Proofs.Ytjenfohogjomdaa.ratioNever
open Go.ChangeShapes Go.WideShapes Go.ChangeAt Go.RowKit Go.Proofs.YtjenfohogjomdaaW Go.Proofs.Ytjenfohogjomdaa.P
open Go.ChangeMaps (open_string shut_string)
open Go.Proofs.YtjenfohogjomdaaW.PrintWords
set_option linter.unusedVariables false
theorem own : ownKnob Try.prog.godebug = none := by kernel_rfl
theorem laidOut : laidOutB Try.prog = true := by kernel_rfl
theorem op32 : PrintOpen.Opens Try.prog 32 k32 ok32 := by
  have h := PrintOpen.opens_iso (fun x : S32 => (x.f0, x.f1)) (fun p => ⟨p.1, p.2⟩) (fun _ => rfl) (PrintOpen.opens_struct Try.underlying32 rfl (by kernel_rfl) (PrintOpen.opensF_cons rfl (PrintOpen.opens_int Try.underlying25 (by kernel_rfl)) (PrintOpen.opensF_one rfl (PrintOpen.opens_int Try.underlying25 (by kernel_rfl)))))
  exact h
theorem op34 : PrintOpen.Opens Try.prog 34 k34 ok34 := by
  have h := PrintOpen.opens_iso (fun x : S34 => (x.f0, x.f1, x.f2)) (fun p => ⟨p.1, p.2.1, p.2.2⟩) (fun _ => rfl) (PrintOpen.opens_struct Try.underlying34 rfl (by kernel_rfl) (PrintOpen.opensF_cons rfl op32 (PrintOpen.opensF_cons rfl (PrintOpen.opens_int Try.underlying3 (by kernel_rfl)) (PrintOpen.opensF_one rfl (PrintOpen.opens_int Try.underlying3 (by kernel_rfl))))))
  exact h
set_option maxRecDepth 100000 in
theorem lifted (os : Os) (started : os.Started) (H : Type) (enc : TypeId × Value → H) :
    ReturnsInHanded {} Try.checked os 9 .any (Rows.ratioNeverSpec.pre6 enc Try.prog Try.f9 Rows.ratioNeverRow.domain false) (Rows.ratioNeverSpec.post enc Try.prog Try.f9 false true false false) := by
  refine returnsInHanded_of_change_sized (C := Try.checked) own started (by kernel_rfl) Try.func9
    (ChangeSpec.witness6 (enc := enc) (C := Try.checked) false ⟨#[], #[.agg #[.int .u64 0, .int .u64 0, .int .i64 0, .int .i64 0], .agg #[.int .u64 0, .int .u64 0, .int .i64 0, .int .i64 0], .agg #[.int .u64 0, .int .u64 0, .int .i64 0, .int .i64 0], .int .i64 0, .int .i64 0, .int .i64 0, .int .i64 0], []⟩ 8 (by kernel_rfl) (by kernel_rfl) (by kernel_rfl) (by kernel_rfl)) ?_
  intro W base args ds gs before hval0 hW hcnd hsz0 _
  have hsz : (DataW.weightsEach Try.prog (Try.f9.params.toList ++ Rows.ratioNeverSpec.plain.varTypes Try.prog) (ds ++ gs)).all (· ≤ reachBytes) = true := hsz0
  have hval : ∀ (j : Nat) t v, Try.f9.params[j]? = some t → args[j]? = some v → Value.okWide Try.prog W .any base t v := hval0
  have hW' := hW
  obtain ⟨p, q, hA0, hV, rfl, hfz, hnd⟩ := hW
  have hA : DataW.TrodAll enc Try.prog W 0 (fun _ => true) true Try.f9.params.toList args.toList ds p := hA0
  rw [Try.params9] at hA hval hsz
  obtain ⟨v0, vs0, d0, ds0, p0, q0, hargs, rfl, rfl, h0, r0⟩ := trodAll_cons hA
  obtain ⟨v1, vs1, d1, ds1, p1, q1, rfl, rfl, rfl, h1, r1⟩ := trodAll_cons r0
  obtain ⟨v2, vs2, d2, ds2, p2, q2, rfl, rfl, rfl, h2, r2⟩ := trodAll_cons r1
  obtain ⟨v3, vs3, d3, ds3, p3, q3, rfl, rfl, rfl, h3, r3⟩ := trodAll_cons r2
  obtain ⟨v4, vs4, d4, ds4, p4, q4, rfl, rfl, rfl, h4, r4⟩ := trodAll_cons r3
  obtain ⟨v5, vs5, d5, ds5, p5, q5, rfl, rfl, rfl, h5, r5⟩ := trodAll_cons r4
  obtain ⟨v6, vs6, d6, ds6, p6, q6, rfl, rfl, rfl, h6, r6⟩ := trodAll_cons r5
  obtain ⟨rfl, rfl, rfl⟩ := trodAll_nil r6
  obtain rfl : args = #[v0, v1, v2, v3, v4, v5, v6] := by cases args; simp_all
  obtain ⟨rfl, rfl⟩ := trodVars_none hV
  have k0 := h0
  have lt0 : ∀ x ∈ p0, x.block < W.heap.size := by obtain ⟨m, hm⟩ := k0; exact DataW.trod_lt m _ _ _ hm
  obtain ⟨a0, cs0, rfl, hK0, w0⟩ := PrintOpen.open_agg Try.underlying34 op34 (hval 0 34 v0 rfl rfl) hsz (j := 0) (t := 34) rfl rfl h0
  obtain rfl := k34_open hK0
  have k1 := h1
  have lt1 : ∀ x ∈ p1, x.block < W.heap.size := by obtain ⟨m, hm⟩ := k1; exact DataW.trod_lt m _ _ _ hm
  obtain ⟨a1, cs1, rfl, hK1, w1⟩ := PrintOpen.open_agg Try.underlying34 op34 (hval 1 34 v1 rfl rfl) hsz (j := 1) (t := 34) rfl rfl h1
  obtain rfl := k34_open hK1
  have k2 := h2
  have lt2 : ∀ x ∈ p2, x.block < W.heap.size := by obtain ⟨m, hm⟩ := k2; exact DataW.trod_lt m _ _ _ hm
  obtain ⟨a2, cs2, rfl, hK2, w2⟩ := PrintOpen.open_agg Try.underlying34 op34 (hval 2 34 v2 rfl rfl) hsz (j := 2) (t := 34) rfl rfl h2
  obtain rfl := k34_open hK2
  obtain ⟨a3, rfl, rfl, rfl, w3⟩ := open_int Try.underlying3 (hval 3 3 v3 rfl rfl) h3
  obtain ⟨a4, rfl, rfl, rfl, w4⟩ := open_int Try.underlying3 (hval 4 3 v4 rfl rfl) h4
  obtain ⟨a5, rfl, rfl, rfl, w5⟩ := open_int Try.underlying3 (hval 5 3 v5 rfl rfl) h5
  obtain ⟨a6, rfl, rfl, rfl, w6⟩ := open_int Try.underlying3 (hval 6 3 v6 rfl rfl) h6
  clear hA0 hval0 hsz0 hsz
  obtain ⟨k, h⟩ := Pure.RatioNever a0 a1 a2 a3 a4 a5 a6 w0 w1 w2 w3 w4 w5 w6
  refine (rosarylaw18_RatioNever.calls (k := k) (a0_0 := a0.f0.f0) (a0_1 := a0.f0.f1) (a0_2 := a0.f1) (a0_3 := a0.f2) (a1_0 := a1.f0.f0) (a1_1 := a1.f0.f1) (a1_2 := a1.f1) (a1_3 := a1.f2) (a2_0 := a2.f0.f0) (a2_1 := a2.f0.f1) (a2_2 := a2.f1) (a2_3 := a2.f2) (a3 := a3) (a4 := a4) (a5 := a5) (a6 := a6) (r := true) (w := W) (h := h)).mono fun e W' he' => ?_
  obtain ⟨he, hd⟩ := he'
  have bel : Below W.heap.size W W' := hd
  subst he
  exact ⟨_, rfl, _, _, _, [], _, [], hW', trodAll_mk1 (shut_bool Try.underlying4 _), (trodAll_cons_mk (Below.trod laidOut (by kernel_rfl) (of_decide_eq_true (by kernel_rfl)) k0 bel lt0) (trodAll_cons_mk (Below.trod laidOut (by kernel_rfl) (of_decide_eq_true (by kernel_rfl)) k1 bel lt1) (trodAll_cons_mk (Below.trod laidOut (by kernel_rfl) (of_decide_eq_true (by kernel_rfl)) k2 bel lt2) (trodAll_cons_mk (shut_int Try.underlying3 w3) (trodAll_cons_mk (shut_int Try.underlying3 w4) (trodAll_cons_mk (shut_int Try.underlying3 w5) (trodAll_cons_mk (shut_int Try.underlying3 w6) trodAll_mk0))))))), rfl, bel.frame _, fun h => by cases h⟩
theorem over : Rows.ratioNeverRow.holds Try.pinned (OpenSpec.ofChange Rows.ratioNeverSpec) :=
  OpenClaim.holds_of_wide 9 Try.f9 rfl rfl rfl rfl rfl rfl rfl ⟨rfl, rfl, rfl, rfl, rfl⟩ rfl rfl rfl rfl rfl (by kernel_rfl) Try.func9 (by kernel_rfl)
    (of_decide_eq_true (by kernel_rfl)) (by unfold Func.isWrapper; first | (rw [if_pos (by decide +kernel)]; kernel_rfl) | (rw [if_neg (by decide +kernel)]; exact ⟨rfl, rfl⟩))
    (fun os started H enc _ => lifted os started H enc)
theorem proved : Rows.RatioNeverSaid := over
#print axioms proved
end Go.Proofs.Ytjenfohogjomdaa.ratioNever
namespace Go.Proofs.Ytjenfohogjomdaa
/-- The row, under a short name, for the claim. -/
theorem ratioNever_holds : Rows.RatioNeverSaid := ratioNever.proved
end Go.Proofs.Ytjenfohogjomdaa
