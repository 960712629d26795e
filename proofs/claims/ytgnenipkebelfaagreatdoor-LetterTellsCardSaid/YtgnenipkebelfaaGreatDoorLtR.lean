/- Letters: what the row's condition gives. -/
import Derived.Test.YtgnenipkebelfaaGreatDoorRows
import Derived.Test.YtgnenipkebelfaaGreatDoorEngS
import Derived.ProofKit
import Derived.WalkKit
import Derived.LaidMore
import Derived.OpenShut
import Derived.Stop.Joined
import Derived.Lib.LaidTab
import Derived.Lib.Fields
set_option maxRecDepth 100000
set_option linter.unusedVariables false
namespace Go.Proofs.YtgnenipkebelfaaGreatDoor.Lr
open Go Go.ChangeShapes Go.WideShapes Go.ChangeAt Go.RowKit Go.Eng
theorem gA : Tryz.prog.globalNamed "strings.asciiSpace" = some 0 := by kernel_rfl
theorem door_met (os : Os) (args : Array Value) : laidMetH Tryz.prog Rows.letterTellsRow.laid ((World.doorLaid Tryz.prog 2000 os).forCall (fun _ _ => 0) ⟨#[], args, []⟩).memory :=
  laidMetH_of_parts3 (fuel := 8) (laidMet_of_run' 8 (by kernel_rfl) (by kernel_rfl)) (by kernel_rfl) (by kernel_rfl)
theorem tab_eq : (Rows.laid_strings_asciiSpace : DataW Unit) = Lib.tabData .u8 Lib.asciiSpaceTab := rfl
theorem tab_at : ∀ c : Nat, c < 256 → Lib.asciiSpaceTab[c]? = some (if c = 32 ∨ (9 ≤ c ∧ c ≤ 13) then 1 else 0) := by decide
theorem laidIn_of {W : World} (h : laidMetH Tryz.prog Rows.letterTellsRow.laid W) : LaidIn W := by
  have h' : laidMetH Tryz.prog [("unicode.White_Space", Rows.laid_unicode_White_Space), ("strings.asciiSpace", Rows.laid_strings_asciiSpace)] W := h
  rw [MakeChecks.laidMetH_plain _ _ _ (by kernel_rfl)] at h'
  obtain ⟨ps, ⟨g0, t0, cs0, f0, p0, q0, hg0, ht0, hv0, hd0, ⟨g1, t1, cs1, f1, p1, q1, hg1, ht1, hv1, hd1, _, _⟩, _⟩, _⟩ := h'
  obtain rfl := Option.some.inj (gA.symm.trans hg1)
  obtain ⟨t, ht, hu, he, hce, hct⟩ : ∃ t, (Tryz.prog.globals[0]?).map (·.type) = some t ∧ (∃ e, Tryz.prog.underlying t = some (.array 256 e) ∧ Tryz.prog.underlying e = some (.int .u8) ∧ Tryz.prog.cellsOf e = 1) ∧ Tryz.prog.cellsOf t = 256 ∧ True ∧ True := ⟨122, by kernel_rfl, ⟨5, by kernel_rfl, by kernel_rfl, by kernel_rfl⟩, by kernel_rfl, trivial, trivial⟩
  obtain ⟨e, hu1, hu2, hu3⟩ := hu
  obtain rfl := Option.some.inj (ht.symm.trans ht1)
  rw [tab_eq] at hd1
  have hcs := Lib.cells_of_tab hu1 hu2 hu3 he hd1
  intro p hp
  have hp' : p = (0, fun o => ∃ cs ty fz, o = .cells cs ty fz ∧ ∀ c : Nat, c < 256 → cs[c]? = some (.int .u8 (if c = 32 ∨ (9 ≤ c ∧ c ≤ 13) then 1 else 0))) := by simpa [laid] using hp
  subst hp'
  have hcell := World.var?_cell gA hv1
  have key : ∀ c : Nat, c < 256 → W.cell? ⟨0, c, none⟩ = some (.int .u8 (if c = 32 ∨ (9 ≤ c ∧ c ≤ 13) then 1 else 0)) := by
    intro c hc
    rw [hcell c, ← Array.getElem?_toList, hcs, List.getElem?_map, tab_at c hc]
    rfl
  unfold World.cell? at key
  cases hh : W.heap[0]? with
  | none => have := key 0 (by omega); rw [hh] at this; cases this
  | some o =>
    refine ⟨o, rfl, ?_⟩
    cases o with
    | cells cs ty fz =>
      refine ⟨cs, ty, fz, rfl, fun c hc => ?_⟩
      have := key c hc
      rw [hh] at this
      simpa using this
    | _ => have := key 0 (by omega); rw [hh] at this; cases this
end Go.Proofs.YtgnenipkebelfaaGreatDoor.Lr
