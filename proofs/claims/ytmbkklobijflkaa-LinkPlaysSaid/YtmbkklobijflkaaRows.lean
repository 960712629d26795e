/-
  No cell of these rows narrows 'for every input' (looked for: loops, veiled, ifaces, maps, wideKeys, modest, calm, conditions, laid).
  DERIVED. THE GIVEN ROWS OF THIS SEAT. 7 by the template 'for every input the law returns true; each argument reads behind the call as it read before'; 0 by the template 'total and deterministic' (their statements: YtmbkklobijflkaaTotals.lean).
  GIVEN WITH THE SEED: the statements are not yours to turn. If you find one false, say at which input.
  Laid BY PROGRAM, IN A SANDBOX (cutbox-rows.mjs): the forced cells as the released guide's own fill.sh prints them over the translation 093080da48bd1c99… (all of the seat's roots in one cut). By AI agents, Wed Nov 11 2026. No macro, syntax, notation, axiom, sorry.
-/
import Derived.Test.YtmbkklobijflkaaChecked
import GoSem.Claim
import GoSem.ClaimJoined
import GoSem.ClaimMapViews
import Derived.JoinedTies
import Derived.KernelRfl
namespace Go.Proofs.Ytmbkklobijflkaa
/- THE CELL 'sum', in the pinned program and in every row, IS THE sha256 OF THE DUMP (.gsa) THAT YtmbkklobijflkaaProg.lean LOADS. Nothing in Lean hashes anything: it is a label: what it is worth is what the hold of that sum in a sandbox is worth. -/
noncomputable def Try.pinned : Pinned := { name := "ytmbkklobijflkaa", sum := "093080da48bd1c99204424b19a76a334f2e5425f49f9cf4ad6865277a4bb4f01", checked := Try.checked }
namespace Rows
def none {H : Type} : Left H := { results := [], args := [] }

/-- 'rosarylaw9.LinkFar': WHATEVER THE INPUT: true; the input reads as it did. -/
def linkFarSpec : ChangeSpec := { name := "linkFar", fn := fun _ => fun
  | [d] => { results := [.lit (.bool true)], args := [d] }
  | _ => none }
def linkFarRow : OpenClaim := { program := "ytmbkklobijflkaa", sum := "093080da48bd1c99204424b19a76a334f2e5425f49f9cf4ad6865277a4bb4f01", func := "rosary/rosarylaw9.LinkFar", spec := "linkFar", unfollowed := true, recurses := true, apart := false }
def LinkFarSaid : Prop := linkFarRow.holds Try.pinned (OpenSpec.ofChange linkFarSpec)

/-- ITS FALSE NEIGHBOUR: 'it returns false'. Refute it at one input. -/
def linkFarWrong : ChangeSpec := { name := "linkFar", fn := fun _ => fun
  | [d] => { results := [.lit (.bool false)], args := [d] }
  | _ => none }
def LinkFarWrongFalsely : Prop := linkFarRow.holds Try.pinned (OpenSpec.ofChange linkFarWrong)

/-- 'rosarylaw9.LinkStrange': WHATEVER THE INPUT: true; the input reads as it did. -/
def linkStrangeSpec : ChangeSpec := { name := "linkStrange", fn := fun _ => fun
  | [d1, d2, d3] => { results := [.lit (.bool true)], args := [d1, d2, d3] }
  | _ => none }
def linkStrangeRow : OpenClaim := { program := "ytmbkklobijflkaa", sum := "093080da48bd1c99204424b19a76a334f2e5425f49f9cf4ad6865277a4bb4f01", func := "rosary/rosarylaw9.LinkStrange", spec := "linkStrange", unfollowed := true, recurses := true, apart := false }
def LinkStrangeSaid : Prop := linkStrangeRow.holds Try.pinned (OpenSpec.ofChange linkStrangeSpec)

/-- ITS FALSE NEIGHBOUR: 'it returns false'. Refute it at one input. -/
def linkStrangeWrong : ChangeSpec := { name := "linkStrange", fn := fun _ => fun
  | [d1, d2, d3] => { results := [.lit (.bool false)], args := [d1, d2, d3] }
  | _ => none }
def LinkStrangeWrongFalsely : Prop := linkStrangeRow.holds Try.pinned (OpenSpec.ofChange linkStrangeWrong)

/-- 'rosarylaw9.LinkAcks': WHATEVER THE INPUT: true; the input reads as it did. -/
def linkAcksSpec : ChangeSpec := { name := "linkAcks", fn := fun _ => fun
  | [d1, d2, d3] => { results := [.lit (.bool true)], args := [d1, d2, d3] }
  | _ => none }
def linkAcksRow : OpenClaim := { program := "ytmbkklobijflkaa", sum := "093080da48bd1c99204424b19a76a334f2e5425f49f9cf4ad6865277a4bb4f01", func := "rosary/rosarylaw9.LinkAcks", spec := "linkAcks", unfollowed := true, recurses := true, apart := false }
def LinkAcksSaid : Prop := linkAcksRow.holds Try.pinned (OpenSpec.ofChange linkAcksSpec)

/-- ITS FALSE NEIGHBOUR: 'it returns false'. Refute it at one input. -/
def linkAcksWrong : ChangeSpec := { name := "linkAcks", fn := fun _ => fun
  | [d1, d2, d3] => { results := [.lit (.bool false)], args := [d1, d2, d3] }
  | _ => none }
def LinkAcksWrongFalsely : Prop := linkAcksRow.holds Try.pinned (OpenSpec.ofChange linkAcksWrong)

/-- 'rosarylaw9.LinkPlays': WHATEVER THE INPUT: true; the input reads as it did. -/
def linkPlaysSpec : ChangeSpec := { name := "linkPlays", fn := fun _ => fun
  | [d1, d2, d3] => { results := [.lit (.bool true)], args := [d1, d2, d3] }
  | _ => none }
def linkPlaysRow : OpenClaim := { program := "ytmbkklobijflkaa", sum := "093080da48bd1c99204424b19a76a334f2e5425f49f9cf4ad6865277a4bb4f01", func := "rosary/rosarylaw9.LinkPlays", spec := "linkPlays", unfollowed := true, recurses := true, apart := false }
def LinkPlaysSaid : Prop := linkPlaysRow.holds Try.pinned (OpenSpec.ofChange linkPlaysSpec)

/-- ITS FALSE NEIGHBOUR: 'it returns false'. Refute it at one input. -/
def linkPlaysWrong : ChangeSpec := { name := "linkPlays", fn := fun _ => fun
  | [d1, d2, d3] => { results := [.lit (.bool false)], args := [d1, d2, d3] }
  | _ => none }
def LinkPlaysWrongFalsely : Prop := linkPlaysRow.holds Try.pinned (OpenSpec.ofChange linkPlaysWrong)

/-- 'rosarylaw9.LinkOnce': WHATEVER THE INPUT: true; the input reads as it did. -/
def linkOnceSpec : ChangeSpec := { name := "linkOnce", fn := fun _ => fun
  | [d1, d2] => { results := [.lit (.bool true)], args := [d1, d2] }
  | _ => none }
def linkOnceRow : OpenClaim := { program := "ytmbkklobijflkaa", sum := "093080da48bd1c99204424b19a76a334f2e5425f49f9cf4ad6865277a4bb4f01", func := "rosary/rosarylaw9.LinkOnce", spec := "linkOnce", unfollowed := true, recurses := true, apart := false }
def LinkOnceSaid : Prop := linkOnceRow.holds Try.pinned (OpenSpec.ofChange linkOnceSpec)

/-- ITS FALSE NEIGHBOUR: 'it returns false'. Refute it at one input. -/
def linkOnceWrong : ChangeSpec := { name := "linkOnce", fn := fun _ => fun
  | [d1, d2] => { results := [.lit (.bool false)], args := [d1, d2] }
  | _ => none }
def LinkOnceWrongFalsely : Prop := linkOnceRow.holds Try.pinned (OpenSpec.ofChange linkOnceWrong)

/-- 'rosarylaw9.LinkWaits': WHATEVER THE INPUT: true; the input reads as it did. -/
def linkWaitsSpec : ChangeSpec := { name := "linkWaits", fn := fun _ => fun
  | [d1, d2, d3] => { results := [.lit (.bool true)], args := [d1, d2, d3] }
  | _ => none }
def linkWaitsRow : OpenClaim := { program := "ytmbkklobijflkaa", sum := "093080da48bd1c99204424b19a76a334f2e5425f49f9cf4ad6865277a4bb4f01", func := "rosary/rosarylaw9.LinkWaits", spec := "linkWaits", unfollowed := true, recurses := true, apart := false }
def LinkWaitsSaid : Prop := linkWaitsRow.holds Try.pinned (OpenSpec.ofChange linkWaitsSpec)

/-- ITS FALSE NEIGHBOUR: 'it returns false'. Refute it at one input. -/
def linkWaitsWrong : ChangeSpec := { name := "linkWaits", fn := fun _ => fun
  | [d1, d2, d3] => { results := [.lit (.bool false)], args := [d1, d2, d3] }
  | _ => none }
def LinkWaitsWrongFalsely : Prop := linkWaitsRow.holds Try.pinned (OpenSpec.ofChange linkWaitsWrong)

/-- 'rosarylaw9.LinkBoth': WHATEVER THE INPUT: true; the input reads as it did. -/
def linkBothSpec : ChangeSpec := { name := "linkBoth", fn := fun _ => fun
  | [d1, d2, d3] => { results := [.lit (.bool true)], args := [d1, d2, d3] }
  | _ => none }
def linkBothRow : OpenClaim := { program := "ytmbkklobijflkaa", sum := "093080da48bd1c99204424b19a76a334f2e5425f49f9cf4ad6865277a4bb4f01", func := "rosary/rosarylaw9.LinkBoth", spec := "linkBoth", unfollowed := true, recurses := true, apart := false }
def LinkBothSaid : Prop := linkBothRow.holds Try.pinned (OpenSpec.ofChange linkBothSpec)

/-- ITS FALSE NEIGHBOUR: 'it returns false'. Refute it at one input. -/
def linkBothWrong : ChangeSpec := { name := "linkBoth", fn := fun _ => fun
  | [d1, d2, d3] => { results := [.lit (.bool false)], args := [d1, d2, d3] }
  | _ => none }
def LinkBothWrongFalsely : Prop := linkBothRow.holds Try.pinned (OpenSpec.ofChange linkBothWrong)

/- THE SECOND FORM. 'bulk': how many values and letters a reading holds, each counted each time it is reached (what is shared counts as often as it is met; a slice's spare places count too). A statement '..UptoSaid' is the law's where the arguments, and the package variables that the reading takes, are together of bulk at most 1048576: NARROWER than '..Said'. Prove '..Said' where nothing that the law and all that it calls make is longer than what came in: it says more and counts as full. Else prove '..UptoSaid'. A law counts once. -/
mutual
def uptoBulk {H : Type} : DataW H → Nat
  | .lit (.string bytes) => bytes.length + 1
  | .lit _ => 1
  | .nil => 1
  | .ptr d => uptoBulk d + 1
  | .slice elems spare => uptoBulkAll elems + uptoBulkAll spare + 1
  | .agg parts => uptoBulkAll parts + 1
  | .iface _ d => uptoBulk d + 1
  | .map entries => uptoBulkEntries entries + 1
  | .held _ => 1
def uptoBulkAll {H : Type} : List (DataW H) → Nat
  | [] => 0
  | d :: r => uptoBulk d + uptoBulkAll r
def uptoBulkEntries {H : Type} : List (Lit × DataW H) → Nat
  | [] => 0
  | x :: r => uptoBulkEntry x + uptoBulkEntries r
def uptoBulkEntry {H : Type} : Lit × DataW H → Nat
  | (.string bytes, d) => bytes.length + uptoBulk d + 1
  | (_, d) => uptoBulk d + 1
 end
def uptoSmall : (H : Type) → List (DataW H) → Bool := fun _ ds => decide (uptoBulkAll ds ≤ 1048576)
def OpenSpec.upto (s : _root_.Go.ChangeSpec) : _root_.Go.OpenSpec := { _root_.Go.OpenSpec.ofChange s with cond := some uptoSmall }

/-- 'rosarylaw9.LinkFar', WHERE WHAT IT READS IS OF BULK AT MOST 1048576: true; the input reads as it did. -/
def linkFarUptoRow : OpenClaim := { program := "ytmbkklobijflkaa", sum := "093080da48bd1c99204424b19a76a334f2e5425f49f9cf4ad6865277a4bb4f01", func := "rosary/rosarylaw9.LinkFar", spec := "linkFar", unfollowed := true, recurses := true, apart := false, narrowed := true }
def LinkFarUptoSaid : Prop := linkFarUptoRow.holds Try.pinned (OpenSpec.upto linkFarSpec)

/-- 'rosarylaw9.LinkStrange', WHERE WHAT IT READS IS OF BULK AT MOST 1048576: true; the input reads as it did. -/
def linkStrangeUptoRow : OpenClaim := { program := "ytmbkklobijflkaa", sum := "093080da48bd1c99204424b19a76a334f2e5425f49f9cf4ad6865277a4bb4f01", func := "rosary/rosarylaw9.LinkStrange", spec := "linkStrange", unfollowed := true, recurses := true, apart := false, narrowed := true }
def LinkStrangeUptoSaid : Prop := linkStrangeUptoRow.holds Try.pinned (OpenSpec.upto linkStrangeSpec)

/-- 'rosarylaw9.LinkAcks', WHERE WHAT IT READS IS OF BULK AT MOST 1048576: true; the input reads as it did. -/
def linkAcksUptoRow : OpenClaim := { program := "ytmbkklobijflkaa", sum := "093080da48bd1c99204424b19a76a334f2e5425f49f9cf4ad6865277a4bb4f01", func := "rosary/rosarylaw9.LinkAcks", spec := "linkAcks", unfollowed := true, recurses := true, apart := false, narrowed := true }
def LinkAcksUptoSaid : Prop := linkAcksUptoRow.holds Try.pinned (OpenSpec.upto linkAcksSpec)

/-- 'rosarylaw9.LinkPlays', WHERE WHAT IT READS IS OF BULK AT MOST 1048576: true; the input reads as it did. -/
def linkPlaysUptoRow : OpenClaim := { program := "ytmbkklobijflkaa", sum := "093080da48bd1c99204424b19a76a334f2e5425f49f9cf4ad6865277a4bb4f01", func := "rosary/rosarylaw9.LinkPlays", spec := "linkPlays", unfollowed := true, recurses := true, apart := false, narrowed := true }
def LinkPlaysUptoSaid : Prop := linkPlaysUptoRow.holds Try.pinned (OpenSpec.upto linkPlaysSpec)

/-- 'rosarylaw9.LinkOnce', WHERE WHAT IT READS IS OF BULK AT MOST 1048576: true; the input reads as it did. -/
def linkOnceUptoRow : OpenClaim := { program := "ytmbkklobijflkaa", sum := "093080da48bd1c99204424b19a76a334f2e5425f49f9cf4ad6865277a4bb4f01", func := "rosary/rosarylaw9.LinkOnce", spec := "linkOnce", unfollowed := true, recurses := true, apart := false, narrowed := true }
def LinkOnceUptoSaid : Prop := linkOnceUptoRow.holds Try.pinned (OpenSpec.upto linkOnceSpec)

/-- 'rosarylaw9.LinkWaits', WHERE WHAT IT READS IS OF BULK AT MOST 1048576: true; the input reads as it did. -/
def linkWaitsUptoRow : OpenClaim := { program := "ytmbkklobijflkaa", sum := "093080da48bd1c99204424b19a76a334f2e5425f49f9cf4ad6865277a4bb4f01", func := "rosary/rosarylaw9.LinkWaits", spec := "linkWaits", unfollowed := true, recurses := true, apart := false, narrowed := true }
def LinkWaitsUptoSaid : Prop := linkWaitsUptoRow.holds Try.pinned (OpenSpec.upto linkWaitsSpec)

/-- 'rosarylaw9.LinkBoth', WHERE WHAT IT READS IS OF BULK AT MOST 1048576: true; the input reads as it did. -/
def linkBothUptoRow : OpenClaim := { program := "ytmbkklobijflkaa", sum := "093080da48bd1c99204424b19a76a334f2e5425f49f9cf4ad6865277a4bb4f01", func := "rosary/rosarylaw9.LinkBoth", spec := "linkBoth", unfollowed := true, recurses := true, apart := false, narrowed := true }
def LinkBothUptoSaid : Prop := linkBothUptoRow.holds Try.pinned (OpenSpec.upto linkBothSpec)

end Rows
end Go.Proofs.Ytmbkklobijflkaa
