/-
  No cell of these rows narrows 'for every input' (looked for: loops, veiled, ifaces, maps, wideKeys, modest, calm, conditions, laid).
  DERIVED. THE GIVEN ROWS OF THIS SEAT. 6 by the template 'for every input the law returns true; each argument reads behind the call as it read before'; 0 by the template 'total and deterministic' (their statements: YtfkhdfnjlegnhaaTotals.lean).
  GIVEN WITH THE SEED: the statements are not yours to turn. If you find one false, say at which input.
  Laid BY PROGRAM, IN A SANDBOX (cutbox-rows.mjs): the forced cells as the released guide's own fill.sh prints them over the translation 021cdd16d62996ea… (all of the seat's roots in one cut). By AI agents, Wed Nov 11 2026. No macro, syntax, notation, axiom, sorry.
-/
import Derived.Test.YtfkhdfnjlegnhaaChecked
import GoSem.Claim
import GoSem.ClaimJoined
import GoSem.ClaimMapViews
import Derived.JoinedTies
import Derived.KernelRfl
namespace Go.Proofs.Ytfkhdfnjlegnhaa
/- THE CELL 'sum', in the pinned program and in every row, IS THE sha256 OF THE DUMP (.gsa) THAT YtfkhdfnjlegnhaaProg.lean LOADS. Nothing in Lean hashes anything: it is a label: what it is worth is what the hold of that sum in a sandbox is worth. -/
noncomputable def Try.pinned : Pinned := { name := "ytfkhdfnjlegnhaa", sum := "021cdd16d62996ea728427e9d1e430d3b445fc48846e8b2493da5286b68b7a55", checked := Try.checked }
namespace Rows
def none {H : Type} : Left H := { results := [], args := [] }

/-- 'rosarylaw12.FingerTells': WHATEVER THE INPUT: true; the input reads as it did. -/
def fingerTellsSpec : ChangeSpec := { name := "fingerTells", fn := fun _ => fun
  | [d1, d2, d3, d4] => { results := [.lit (.bool true)], args := [d1, d2, d3, d4] }
  | _ => none }
def fingerTellsRow : OpenClaim := { program := "ytfkhdfnjlegnhaa", sum := "021cdd16d62996ea728427e9d1e430d3b445fc48846e8b2493da5286b68b7a55", func := "rosary/rosarylaw12.FingerTells", spec := "fingerTells", apart := false }
def FingerTellsSaid : Prop := fingerTellsRow.holds Try.pinned (OpenSpec.ofChange fingerTellsSpec)

/-- ITS FALSE NEIGHBOUR: 'it returns false'. Refute it at one input. -/
def fingerTellsWrong : ChangeSpec := { name := "fingerTells", fn := fun _ => fun
  | [d1, d2, d3, d4] => { results := [.lit (.bool false)], args := [d1, d2, d3, d4] }
  | _ => none }
def FingerTellsWrongFalsely : Prop := fingerTellsRow.holds Try.pinned (OpenSpec.ofChange fingerTellsWrong)

/-- 'rosarylaw12.FingerWays': WHATEVER THE INPUT: true; the input reads as it did. -/
def fingerWaysSpec : ChangeSpec := { name := "fingerWays", fn := fun _ => fun
  | [d1, d2, d3] => { results := [.lit (.bool true)], args := [d1, d2, d3] }
  | _ => none }
def fingerWaysRow : OpenClaim := { program := "ytfkhdfnjlegnhaa", sum := "021cdd16d62996ea728427e9d1e430d3b445fc48846e8b2493da5286b68b7a55", func := "rosary/rosarylaw12.FingerWays", spec := "fingerWays", apart := false }
def FingerWaysSaid : Prop := fingerWaysRow.holds Try.pinned (OpenSpec.ofChange fingerWaysSpec)

/-- ITS FALSE NEIGHBOUR: 'it returns false'. Refute it at one input. -/
def fingerWaysWrong : ChangeSpec := { name := "fingerWays", fn := fun _ => fun
  | [d1, d2, d3] => { results := [.lit (.bool false)], args := [d1, d2, d3] }
  | _ => none }
def FingerWaysWrongFalsely : Prop := fingerWaysRow.holds Try.pinned (OpenSpec.ofChange fingerWaysWrong)

/-- 'rosarylaw12.FingerFew': WHATEVER THE INPUT: true; the input reads as it did. -/
def fingerFewSpec : ChangeSpec := { name := "fingerFew", fn := fun _ => fun
  | [d1, d2] => { results := [.lit (.bool true)], args := [d1, d2] }
  | _ => none }
def fingerFewRow : OpenClaim := { program := "ytfkhdfnjlegnhaa", sum := "021cdd16d62996ea728427e9d1e430d3b445fc48846e8b2493da5286b68b7a55", func := "rosary/rosarylaw12.FingerFew", spec := "fingerFew", apart := false }
def FingerFewSaid : Prop := fingerFewRow.holds Try.pinned (OpenSpec.ofChange fingerFewSpec)

/-- ITS FALSE NEIGHBOUR: 'it returns false'. Refute it at one input. -/
def fingerFewWrong : ChangeSpec := { name := "fingerFew", fn := fun _ => fun
  | [d1, d2] => { results := [.lit (.bool false)], args := [d1, d2] }
  | _ => none }
def FingerFewWrongFalsely : Prop := fingerFewRow.holds Try.pinned (OpenSpec.ofChange fingerFewWrong)

/-- 'rosarylaw12.FingerStops': WHATEVER THE INPUT: true; the input reads as it did. -/
def fingerStopsSpec : ChangeSpec := { name := "fingerStops", fn := fun _ => fun
  | [d1, d2, d3] => { results := [.lit (.bool true)], args := [d1, d2, d3] }
  | _ => none }
def fingerStopsRow : OpenClaim := { program := "ytfkhdfnjlegnhaa", sum := "021cdd16d62996ea728427e9d1e430d3b445fc48846e8b2493da5286b68b7a55", func := "rosary/rosarylaw12.FingerStops", spec := "fingerStops", apart := false }
def FingerStopsSaid : Prop := fingerStopsRow.holds Try.pinned (OpenSpec.ofChange fingerStopsSpec)

/-- ITS FALSE NEIGHBOUR: 'it returns false'. Refute it at one input. -/
def fingerStopsWrong : ChangeSpec := { name := "fingerStops", fn := fun _ => fun
  | [d1, d2, d3] => { results := [.lit (.bool false)], args := [d1, d2, d3] }
  | _ => none }
def FingerStopsWrongFalsely : Prop := fingerStopsRow.holds Try.pinned (OpenSpec.ofChange fingerStopsWrong)

/-- 'rosarylaw12.FingerHalves': WHATEVER THE INPUT: true; the input reads as it did. -/
def fingerHalvesSpec : ChangeSpec := { name := "fingerHalves", fn := fun _ => fun
  | [d1, d2, d3] => { results := [.lit (.bool true)], args := [d1, d2, d3] }
  | _ => none }
def fingerHalvesRow : OpenClaim := { program := "ytfkhdfnjlegnhaa", sum := "021cdd16d62996ea728427e9d1e430d3b445fc48846e8b2493da5286b68b7a55", func := "rosary/rosarylaw12.FingerHalves", spec := "fingerHalves", apart := false }
def FingerHalvesSaid : Prop := fingerHalvesRow.holds Try.pinned (OpenSpec.ofChange fingerHalvesSpec)

/-- ITS FALSE NEIGHBOUR: 'it returns false'. Refute it at one input. -/
def fingerHalvesWrong : ChangeSpec := { name := "fingerHalves", fn := fun _ => fun
  | [d1, d2, d3] => { results := [.lit (.bool false)], args := [d1, d2, d3] }
  | _ => none }
def FingerHalvesWrongFalsely : Prop := fingerHalvesRow.holds Try.pinned (OpenSpec.ofChange fingerHalvesWrong)

/-- 'rosarylaw12.FingerRounds': WHATEVER THE INPUT: true; the input reads as it did. -/
def fingerRoundsSpec : ChangeSpec := { name := "fingerRounds", fn := fun _ => fun
  | [d1, d2] => { results := [.lit (.bool true)], args := [d1, d2] }
  | _ => none }
def fingerRoundsRow : OpenClaim := { program := "ytfkhdfnjlegnhaa", sum := "021cdd16d62996ea728427e9d1e430d3b445fc48846e8b2493da5286b68b7a55", func := "rosary/rosarylaw12.FingerRounds", spec := "fingerRounds", apart := false }
def FingerRoundsSaid : Prop := fingerRoundsRow.holds Try.pinned (OpenSpec.ofChange fingerRoundsSpec)

/-- ITS FALSE NEIGHBOUR: 'it returns false'. Refute it at one input. -/
def fingerRoundsWrong : ChangeSpec := { name := "fingerRounds", fn := fun _ => fun
  | [d1, d2] => { results := [.lit (.bool false)], args := [d1, d2] }
  | _ => none }
def FingerRoundsWrongFalsely : Prop := fingerRoundsRow.holds Try.pinned (OpenSpec.ofChange fingerRoundsWrong)

/- THE SECOND FORM. 'bulk': how many values and letters a reading holds, each counted each time it is reached (what is shared counts as often as it is met; a slice's spare places count too). A statement '..UptoSaid' is the law's where the arguments, and the package variables that the reading takes, are together of bulk at most 1048576: NARROWER than '..Said'. Prove '..Said' where nothing that the law and all that it calls make is longer than what came in: it says more and counts as full. Else prove '..UptoSaid'. A law counts once. -/
mutual
def uptoBulk {H : Type} : DataW H → Nat
  | .lit (.string bytes) => bytes.length + 1
  | .lit _ => 1
  | .nil => 1
  | .ptr d => uptoBulk d + 1
  | .slice elems spare => uptoBulkAll elems + uptoBulkAll spare + 1
  | .agg parts => uptoBulkAll parts + 1
  | .iface _ d => uptoBulk d + 1
  | .map entries => uptoBulkEntries entries + 1
  | .held _ => 1
def uptoBulkAll {H : Type} : List (DataW H) → Nat
  | [] => 0
  | d :: r => uptoBulk d + uptoBulkAll r
def uptoBulkEntries {H : Type} : List (Lit × DataW H) → Nat
  | [] => 0
  | x :: r => uptoBulkEntry x + uptoBulkEntries r
def uptoBulkEntry {H : Type} : Lit × DataW H → Nat
  | (.string bytes, d) => bytes.length + uptoBulk d + 1
  | (_, d) => uptoBulk d + 1
 end
def uptoSmall : (H : Type) → List (DataW H) → Bool := fun _ ds => decide (uptoBulkAll ds ≤ 1048576)
def OpenSpec.upto (s : _root_.Go.ChangeSpec) : _root_.Go.OpenSpec := { _root_.Go.OpenSpec.ofChange s with cond := some uptoSmall }

/-- 'rosarylaw12.FingerTells', WHERE WHAT IT READS IS OF BULK AT MOST 1048576: true; the input reads as it did. -/
def fingerTellsUptoRow : OpenClaim := { program := "ytfkhdfnjlegnhaa", sum := "021cdd16d62996ea728427e9d1e430d3b445fc48846e8b2493da5286b68b7a55", func := "rosary/rosarylaw12.FingerTells", spec := "fingerTells", apart := false, narrowed := true }
def FingerTellsUptoSaid : Prop := fingerTellsUptoRow.holds Try.pinned (OpenSpec.upto fingerTellsSpec)

/-- 'rosarylaw12.FingerWays', WHERE WHAT IT READS IS OF BULK AT MOST 1048576: true; the input reads as it did. -/
def fingerWaysUptoRow : OpenClaim := { program := "ytfkhdfnjlegnhaa", sum := "021cdd16d62996ea728427e9d1e430d3b445fc48846e8b2493da5286b68b7a55", func := "rosary/rosarylaw12.FingerWays", spec := "fingerWays", apart := false, narrowed := true }
def FingerWaysUptoSaid : Prop := fingerWaysUptoRow.holds Try.pinned (OpenSpec.upto fingerWaysSpec)

/-- 'rosarylaw12.FingerFew', WHERE WHAT IT READS IS OF BULK AT MOST 1048576: true; the input reads as it did. -/
def fingerFewUptoRow : OpenClaim := { program := "ytfkhdfnjlegnhaa", sum := "021cdd16d62996ea728427e9d1e430d3b445fc48846e8b2493da5286b68b7a55", func := "rosary/rosarylaw12.FingerFew", spec := "fingerFew", apart := false, narrowed := true }
def FingerFewUptoSaid : Prop := fingerFewUptoRow.holds Try.pinned (OpenSpec.upto fingerFewSpec)

/-- 'rosarylaw12.FingerStops', WHERE WHAT IT READS IS OF BULK AT MOST 1048576: true; the input reads as it did. -/
def fingerStopsUptoRow : OpenClaim := { program := "ytfkhdfnjlegnhaa", sum := "021cdd16d62996ea728427e9d1e430d3b445fc48846e8b2493da5286b68b7a55", func := "rosary/rosarylaw12.FingerStops", spec := "fingerStops", apart := false, narrowed := true }
def FingerStopsUptoSaid : Prop := fingerStopsUptoRow.holds Try.pinned (OpenSpec.upto fingerStopsSpec)

/-- 'rosarylaw12.FingerHalves', WHERE WHAT IT READS IS OF BULK AT MOST 1048576: true; the input reads as it did. -/
def fingerHalvesUptoRow : OpenClaim := { program := "ytfkhdfnjlegnhaa", sum := "021cdd16d62996ea728427e9d1e430d3b445fc48846e8b2493da5286b68b7a55", func := "rosary/rosarylaw12.FingerHalves", spec := "fingerHalves", apart := false, narrowed := true }
def FingerHalvesUptoSaid : Prop := fingerHalvesUptoRow.holds Try.pinned (OpenSpec.upto fingerHalvesSpec)

/-- 'rosarylaw12.FingerRounds', WHERE WHAT IT READS IS OF BULK AT MOST 1048576: true; the input reads as it did. -/
def fingerRoundsUptoRow : OpenClaim := { program := "ytfkhdfnjlegnhaa", sum := "021cdd16d62996ea728427e9d1e430d3b445fc48846e8b2493da5286b68b7a55", func := "rosary/rosarylaw12.FingerRounds", spec := "fingerRounds", apart := false, narrowed := true }
def FingerRoundsUptoSaid : Prop := fingerRoundsUptoRow.holds Try.pinned (OpenSpec.upto fingerRoundsSpec)

end Rows
end Go.Proofs.Ytfkhdfnjlegnhaa
