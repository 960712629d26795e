/- A book of lists: its block; what lies apart. (written by genbk.py) -/
import Derived.Test.YtmbkklobijflkaaBkN
set_option maxRecDepth 100000
set_option linter.unusedVariables false
set_option linter.unusedSimpArgs false
namespace Go.Proofs.Ytmbkklobijflkaa.Bk
open Go Go.Eng F

def bookB (pi wi pl wl : AV) : Blk := .row 14 [[.nilslice, .nilslice, .nilslice, .nilslice, .nilslice, .nilslice, pi, wi, .nilslice, .nilslice, .nilslice, .nilslice, pl, wl]] true true
def feet (vs : List AV) : List Nat := vs.flatMap foot
theorem mem_feet {vs : List AV} {i : Nat} (h : i < vs.length) {c : Nat} (hc : c ∈ foot vs[i]) : c ∈ feet vs := List.mem_flatMap.2 ⟨_, List.getElem_mem _, hc⟩
/-- The lists lie apart, and from the book. -/
structure Apt (g : Nat) (pv : AV) (vs : List AV) : Prop where
  gv : ∀ i (h : i < vs.length), g ∉ foot vs[i]
  pv : ∀ i (h : i < vs.length), ∀ c ∈ foot pv, c ∉ foot vs[i]
  vv : ∀ i j (hi : i < vs.length) (hj : j < vs.length), i ≠ j → ∀ c ∈ foot vs[i], c ∉ foot vs[j]
theorem Apt.g_feet {g : Nat} {pv : AV} {vs : List AV} (a : Apt g pv vs) : g ∉ feet vs := by
  intro h
  obtain ⟨v, hv, hc⟩ := List.mem_flatMap.1 h
  obtain ⟨i, hi, rfl⟩ := List.mem_iff_getElem.1 hv
  exact a.gv i hi hc
theorem Apt.p_feet {g : Nat} {pv : AV} {vs : List AV} (a : Apt g pv vs) : ∀ c ∈ foot pv, c ∉ feet vs := by
  intro c hp h
  obtain ⟨v, hv, hc⟩ := List.mem_flatMap.1 h
  obtain ⟨i, hi, rfl⟩ := List.mem_iff_getElem.1 hv
  exact a.pv i hi c hp hc
end Go.Proofs.Ytmbkklobijflkaa.Bk
