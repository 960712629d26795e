/-
  No cell of these rows narrows 'for every input' (looked for: loops, veiled, ifaces, maps, wideKeys, modest, calm, conditions, laid).
  DERIVED. THE GIVEN ROWS OF THIS SEAT. 4 by the template 'for every input the law returns true; each argument reads behind the call as it read before'; 0 by the template 'total and deterministic' (their statements: YtejheglkoimgiaaTotals.lean).
  GIVEN WITH THE SEED: the statements are not yours to turn. If you find one false, say at which input.
  Laid BY PROGRAM, IN A SANDBOX (cutbox-rows.mjs): the forced cells as the released guide's own fill.sh prints them over the translation 6e93fdcf9c2bd212… (all of the seat's roots in one cut). By AI agents, Wed Nov 11 2026. No macro, syntax, notation, axiom, sorry.
-/
import Derived.Test.YtejheglkoimgiaaChecked
import GoSem.Claim
import GoSem.ClaimJoined
import GoSem.ClaimMapViews
import Derived.JoinedTies
import Derived.KernelRfl
namespace Go.Proofs.Ytejheglkoimgiaa
/- THE CELL 'sum', in the pinned program and in every row, IS THE sha256 OF THE DUMP (.gsa) THAT YtejheglkoimgiaaProg.lean LOADS. Nothing in Lean hashes anything: it is a label: what it is worth is what the hold of that sum in a sandbox is worth. -/
noncomputable def Try.pinned : Pinned := { name := "ytejheglkoimgiaa", sum := "6e93fdcf9c2bd2125ca0048f1a952b5ac0f15ecb692016e4c4cc3a6173c0f3d0", checked := Try.checked }
namespace Rows
def none {H : Type} : Left H := { results := [], args := [] }

/-- 'rosarylaw19.ProbeEven': WHATEVER THE INPUT: true; the input reads as it did. -/
def probeEvenSpec : ChangeSpec := { name := "probeEven", fn := fun _ => fun
  | [d1, d2, d3, d4, d5] => { results := [.lit (.bool true)], args := [d1, d2, d3, d4, d5] }
  | _ => none }
def probeEvenRow : OpenClaim := { program := "ytejheglkoimgiaa", sum := "6e93fdcf9c2bd2125ca0048f1a952b5ac0f15ecb692016e4c4cc3a6173c0f3d0", func := "rosary/rosarylaw19.ProbeEven", spec := "probeEven", apart := false }
def ProbeEvenSaid : Prop := probeEvenRow.holds Try.pinned (OpenSpec.ofChange probeEvenSpec)

/-- ITS FALSE NEIGHBOUR: 'it returns false'. Refute it at one input. -/
def probeEvenWrong : ChangeSpec := { name := "probeEven", fn := fun _ => fun
  | [d1, d2, d3, d4, d5] => { results := [.lit (.bool false)], args := [d1, d2, d3, d4, d5] }
  | _ => none }
def ProbeEvenWrongFalsely : Prop := probeEvenRow.holds Try.pinned (OpenSpec.ofChange probeEvenWrong)

/-- 'rosarylaw19.ProbeRoad': WHATEVER THE INPUT: true; the input reads as it did. -/
def probeRoadSpec : ChangeSpec := { name := "probeRoad", fn := fun _ => fun
  | [d1, d2, d3, d4, d5, d6] => { results := [.lit (.bool true)], args := [d1, d2, d3, d4, d5, d6] }
  | _ => none }
def probeRoadRow : OpenClaim := { program := "ytejheglkoimgiaa", sum := "6e93fdcf9c2bd2125ca0048f1a952b5ac0f15ecb692016e4c4cc3a6173c0f3d0", func := "rosary/rosarylaw19.ProbeRoad", spec := "probeRoad", apart := false }
def ProbeRoadSaid : Prop := probeRoadRow.holds Try.pinned (OpenSpec.ofChange probeRoadSpec)

/-- ITS FALSE NEIGHBOUR: 'it returns false'. Refute it at one input. -/
def probeRoadWrong : ChangeSpec := { name := "probeRoad", fn := fun _ => fun
  | [d1, d2, d3, d4, d5, d6] => { results := [.lit (.bool false)], args := [d1, d2, d3, d4, d5, d6] }
  | _ => none }
def ProbeRoadWrongFalsely : Prop := probeRoadRow.holds Try.pinned (OpenSpec.ofChange probeRoadWrong)

/-- 'rosarylaw19.ProbeUppers': WHATEVER THE INPUT: true; the input reads as it did. -/
def probeUppersSpec : ChangeSpec := { name := "probeUppers", fn := fun _ => fun
  | [d1, d2, d3, d4] => { results := [.lit (.bool true)], args := [d1, d2, d3, d4] }
  | _ => none }
def probeUppersRow : OpenClaim := { program := "ytejheglkoimgiaa", sum := "6e93fdcf9c2bd2125ca0048f1a952b5ac0f15ecb692016e4c4cc3a6173c0f3d0", func := "rosary/rosarylaw19.ProbeUppers", spec := "probeUppers", apart := false }
def ProbeUppersSaid : Prop := probeUppersRow.holds Try.pinned (OpenSpec.ofChange probeUppersSpec)

/-- ITS FALSE NEIGHBOUR: 'it returns false'. Refute it at one input. -/
def probeUppersWrong : ChangeSpec := { name := "probeUppers", fn := fun _ => fun
  | [d1, d2, d3, d4] => { results := [.lit (.bool false)], args := [d1, d2, d3, d4] }
  | _ => none }
def ProbeUppersWrongFalsely : Prop := probeUppersRow.holds Try.pinned (OpenSpec.ofChange probeUppersWrong)

/-- 'rosarylaw19.ProbeHops': WHATEVER THE INPUT: true; the input reads as it did. -/
def probeHopsSpec : ChangeSpec := { name := "probeHops", fn := fun _ => fun
  | [d1, d2, d3, d4, d5] => { results := [.lit (.bool true)], args := [d1, d2, d3, d4, d5] }
  | _ => none }
def probeHopsRow : OpenClaim := { program := "ytejheglkoimgiaa", sum := "6e93fdcf9c2bd2125ca0048f1a952b5ac0f15ecb692016e4c4cc3a6173c0f3d0", func := "rosary/rosarylaw19.ProbeHops", spec := "probeHops", apart := false }
def ProbeHopsSaid : Prop := probeHopsRow.holds Try.pinned (OpenSpec.ofChange probeHopsSpec)

/-- ITS FALSE NEIGHBOUR: 'it returns false'. Refute it at one input. -/
def probeHopsWrong : ChangeSpec := { name := "probeHops", fn := fun _ => fun
  | [d1, d2, d3, d4, d5] => { results := [.lit (.bool false)], args := [d1, d2, d3, d4, d5] }
  | _ => none }
def ProbeHopsWrongFalsely : Prop := probeHopsRow.holds Try.pinned (OpenSpec.ofChange probeHopsWrong)

/- THE SECOND FORM. 'bulk': how many values and letters a reading holds, each counted each time it is reached (what is shared counts as often as it is met; a slice's spare places count too). A statement '..UptoSaid' is the law's where the arguments, and the package variables that the reading takes, are together of bulk at most 1048576: NARROWER than '..Said'. Prove '..Said' where nothing that the law and all that it calls make is longer than what came in: it says more and counts as full. Else prove '..UptoSaid'. A law counts once. -/
mutual
def uptoBulk {H : Type} : DataW H → Nat
  | .lit (.string bytes) => bytes.length + 1
  | .lit _ => 1
  | .nil => 1
  | .ptr d => uptoBulk d + 1
  | .slice elems spare => uptoBulkAll elems + uptoBulkAll spare + 1
  | .agg parts => uptoBulkAll parts + 1
  | .iface _ d => uptoBulk d + 1
  | .map entries => uptoBulkEntries entries + 1
  | .held _ => 1
def uptoBulkAll {H : Type} : List (DataW H) → Nat
  | [] => 0
  | d :: r => uptoBulk d + uptoBulkAll r
def uptoBulkEntries {H : Type} : List (Lit × DataW H) → Nat
  | [] => 0
  | x :: r => uptoBulkEntry x + uptoBulkEntries r
def uptoBulkEntry {H : Type} : Lit × DataW H → Nat
  | (.string bytes, d) => bytes.length + uptoBulk d + 1
  | (_, d) => uptoBulk d + 1
 end
def uptoSmall : (H : Type) → List (DataW H) → Bool := fun _ ds => decide (uptoBulkAll ds ≤ 1048576)
def OpenSpec.upto (s : _root_.Go.ChangeSpec) : _root_.Go.OpenSpec := { _root_.Go.OpenSpec.ofChange s with cond := some uptoSmall }

/-- 'rosarylaw19.ProbeEven', WHERE WHAT IT READS IS OF BULK AT MOST 1048576: true; the input reads as it did. -/
def probeEvenUptoRow : OpenClaim := { program := "ytejheglkoimgiaa", sum := "6e93fdcf9c2bd2125ca0048f1a952b5ac0f15ecb692016e4c4cc3a6173c0f3d0", func := "rosary/rosarylaw19.ProbeEven", spec := "probeEven", apart := false, narrowed := true }
def ProbeEvenUptoSaid : Prop := probeEvenUptoRow.holds Try.pinned (OpenSpec.upto probeEvenSpec)

/-- 'rosarylaw19.ProbeRoad', WHERE WHAT IT READS IS OF BULK AT MOST 1048576: true; the input reads as it did. -/
def probeRoadUptoRow : OpenClaim := { program := "ytejheglkoimgiaa", sum := "6e93fdcf9c2bd2125ca0048f1a952b5ac0f15ecb692016e4c4cc3a6173c0f3d0", func := "rosary/rosarylaw19.ProbeRoad", spec := "probeRoad", apart := false, narrowed := true }
def ProbeRoadUptoSaid : Prop := probeRoadUptoRow.holds Try.pinned (OpenSpec.upto probeRoadSpec)

/-- 'rosarylaw19.ProbeUppers', WHERE WHAT IT READS IS OF BULK AT MOST 1048576: true; the input reads as it did. -/
def probeUppersUptoRow : OpenClaim := { program := "ytejheglkoimgiaa", sum := "6e93fdcf9c2bd2125ca0048f1a952b5ac0f15ecb692016e4c4cc3a6173c0f3d0", func := "rosary/rosarylaw19.ProbeUppers", spec := "probeUppers", apart := false, narrowed := true }
def ProbeUppersUptoSaid : Prop := probeUppersUptoRow.holds Try.pinned (OpenSpec.upto probeUppersSpec)

/-- 'rosarylaw19.ProbeHops', WHERE WHAT IT READS IS OF BULK AT MOST 1048576: true; the input reads as it did. -/
def probeHopsUptoRow : OpenClaim := { program := "ytejheglkoimgiaa", sum := "6e93fdcf9c2bd2125ca0048f1a952b5ac0f15ecb692016e4c4cc3a6173c0f3d0", func := "rosary/rosarylaw19.ProbeHops", spec := "probeHops", apart := false, narrowed := true }
def ProbeHopsUptoSaid : Prop := probeHopsUptoRow.holds Try.pinned (OpenSpec.upto probeHopsSpec)

end Rows
end Go.Proofs.Ytejheglkoimgiaa
