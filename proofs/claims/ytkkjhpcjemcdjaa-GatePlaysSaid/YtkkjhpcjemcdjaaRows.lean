/-
  No cell of these rows narrows 'for every input' (looked for: loops, veiled, ifaces, maps, wideKeys, modest, calm, conditions, laid).
  DERIVED. THE GIVEN ROWS OF THIS SEAT. 4 by the template 'for every input the law returns true; each argument reads behind the call as it read before'; 0 by the template 'total and deterministic' (their statements: YtkkjhpcjemcdjaaTotals.lean).
  GIVEN WITH THE SEED: the statements are not yours to turn. If you find one false, say at which input.
  Laid BY PROGRAM, IN A SANDBOX (cutbox-rows.mjs): the forced cells as the released guide's own fill.sh prints them over the translation c6c424bd3c408799… (all of the seat's roots in one cut). By AI agents, Wed Nov 11 2026. No macro, syntax, notation, axiom, sorry.
-/
import Derived.Test.YtkkjhpcjemcdjaaChecked
import GoSem.Claim
import GoSem.ClaimJoined
import GoSem.ClaimMapViews
import Derived.JoinedTies
import Derived.KernelRfl
namespace Go.Proofs.Ytkkjhpcjemcdjaa
/- THE CELL 'sum', in the pinned program and in every row, IS THE sha256 OF THE DUMP (.gsa) THAT YtkkjhpcjemcdjaaProg.lean LOADS. Nothing in Lean hashes anything: it is a label: what it is worth is what the hold of that sum in a sandbox is worth. -/
noncomputable def Try.pinned : Pinned := { name := "ytkkjhpcjemcdjaa", sum := "c6c424bd3c408799fb5244d146eac18aff8f988d44c01cf3382150396999c053", checked := Try.checked }
namespace Rows
def none {H : Type} : Left H := { results := [], args := [] }

/-- 'rosarylaw13.GateLast': WHATEVER THE INPUT: true; the input reads as it did. -/
def gateLastSpec : ChangeSpec := { name := "gateLast", fn := fun _ => fun
  | [d1, d2, d3, d4, d5] => { results := [.lit (.bool true)], args := [d1, d2, d3, d4, d5] }
  | _ => none }
def gateLastRow : OpenClaim := { program := "ytkkjhpcjemcdjaa", sum := "c6c424bd3c408799fb5244d146eac18aff8f988d44c01cf3382150396999c053", func := "rosary/rosarylaw13.GateLast", spec := "gateLast", unfollowed := true, recurses := true, apart := false }
def GateLastSaid : Prop := gateLastRow.holds Try.pinned (OpenSpec.ofChange gateLastSpec)

/-- ITS FALSE NEIGHBOUR: 'it returns false'. Refute it at one input. -/
def gateLastWrong : ChangeSpec := { name := "gateLast", fn := fun _ => fun
  | [d1, d2, d3, d4, d5] => { results := [.lit (.bool false)], args := [d1, d2, d3, d4, d5] }
  | _ => none }
def GateLastWrongFalsely : Prop := gateLastRow.holds Try.pinned (OpenSpec.ofChange gateLastWrong)

/-- 'rosarylaw13.GateShut': WHATEVER THE INPUT: true; the input reads as it did. -/
def gateShutSpec : ChangeSpec := { name := "gateShut", fn := fun _ => fun
  | [d1, d2, d3] => { results := [.lit (.bool true)], args := [d1, d2, d3] }
  | _ => none }
def gateShutRow : OpenClaim := { program := "ytkkjhpcjemcdjaa", sum := "c6c424bd3c408799fb5244d146eac18aff8f988d44c01cf3382150396999c053", func := "rosary/rosarylaw13.GateShut", spec := "gateShut", unfollowed := true, recurses := true, apart := false }
def GateShutSaid : Prop := gateShutRow.holds Try.pinned (OpenSpec.ofChange gateShutSpec)

/-- ITS FALSE NEIGHBOUR: 'it returns false'. Refute it at one input. -/
def gateShutWrong : ChangeSpec := { name := "gateShut", fn := fun _ => fun
  | [d1, d2, d3] => { results := [.lit (.bool false)], args := [d1, d2, d3] }
  | _ => none }
def GateShutWrongFalsely : Prop := gateShutRow.holds Try.pinned (OpenSpec.ofChange gateShutWrong)

/-- 'rosarylaw13.GateTicks': WHATEVER THE INPUT: true; the input reads as it did. -/
def gateTicksSpec : ChangeSpec := { name := "gateTicks", fn := fun _ => fun
  | [d] => { results := [.lit (.bool true)], args := [d] }
  | _ => none }
def gateTicksRow : OpenClaim := { program := "ytkkjhpcjemcdjaa", sum := "c6c424bd3c408799fb5244d146eac18aff8f988d44c01cf3382150396999c053", func := "rosary/rosarylaw13.GateTicks", spec := "gateTicks", unfollowed := true, recurses := true, apart := false }
def GateTicksSaid : Prop := gateTicksRow.holds Try.pinned (OpenSpec.ofChange gateTicksSpec)

/-- ITS FALSE NEIGHBOUR: 'it returns false'. Refute it at one input. -/
def gateTicksWrong : ChangeSpec := { name := "gateTicks", fn := fun _ => fun
  | [d] => { results := [.lit (.bool false)], args := [d] }
  | _ => none }
def GateTicksWrongFalsely : Prop := gateTicksRow.holds Try.pinned (OpenSpec.ofChange gateTicksWrong)

/-- 'rosarylaw13.GatePlays': WHATEVER THE INPUT: true; the input reads as it did. -/
def gatePlaysSpec : ChangeSpec := { name := "gatePlays", fn := fun _ => fun
  | [d1, d2] => { results := [.lit (.bool true)], args := [d1, d2] }
  | _ => none }
def gatePlaysRow : OpenClaim := { program := "ytkkjhpcjemcdjaa", sum := "c6c424bd3c408799fb5244d146eac18aff8f988d44c01cf3382150396999c053", func := "rosary/rosarylaw13.GatePlays", spec := "gatePlays", unfollowed := true, recurses := true, apart := false }
def GatePlaysSaid : Prop := gatePlaysRow.holds Try.pinned (OpenSpec.ofChange gatePlaysSpec)

/-- ITS FALSE NEIGHBOUR: 'it returns false'. Refute it at one input. -/
def gatePlaysWrong : ChangeSpec := { name := "gatePlays", fn := fun _ => fun
  | [d1, d2] => { results := [.lit (.bool false)], args := [d1, d2] }
  | _ => none }
def GatePlaysWrongFalsely : Prop := gatePlaysRow.holds Try.pinned (OpenSpec.ofChange gatePlaysWrong)

/- THE SECOND FORM. 'bulk': how many values and letters a reading holds, each counted each time it is reached (what is shared counts as often as it is met; a slice's spare places count too). A statement '..UptoSaid' is the law's where the arguments, and the package variables that the reading takes, are together of bulk at most 1048576: NARROWER than '..Said'. Prove '..Said' where nothing that the law and all that it calls make is longer than what came in: it says more and counts as full. Else prove '..UptoSaid'. A law counts once. -/
mutual
def uptoBulk {H : Type} : DataW H → Nat
  | .lit (.string bytes) => bytes.length + 1
  | .lit _ => 1
  | .nil => 1
  | .ptr d => uptoBulk d + 1
  | .slice elems spare => uptoBulkAll elems + uptoBulkAll spare + 1
  | .agg parts => uptoBulkAll parts + 1
  | .iface _ d => uptoBulk d + 1
  | .map entries => uptoBulkEntries entries + 1
  | .held _ => 1
def uptoBulkAll {H : Type} : List (DataW H) → Nat
  | [] => 0
  | d :: r => uptoBulk d + uptoBulkAll r
def uptoBulkEntries {H : Type} : List (Lit × DataW H) → Nat
  | [] => 0
  | x :: r => uptoBulkEntry x + uptoBulkEntries r
def uptoBulkEntry {H : Type} : Lit × DataW H → Nat
  | (.string bytes, d) => bytes.length + uptoBulk d + 1
  | (_, d) => uptoBulk d + 1
 end
def uptoSmall : (H : Type) → List (DataW H) → Bool := fun _ ds => decide (uptoBulkAll ds ≤ 1048576)
def OpenSpec.upto (s : _root_.Go.ChangeSpec) : _root_.Go.OpenSpec := { _root_.Go.OpenSpec.ofChange s with cond := some uptoSmall }

/-- 'rosarylaw13.GateLast', WHERE WHAT IT READS IS OF BULK AT MOST 1048576: true; the input reads as it did. -/
def gateLastUptoRow : OpenClaim := { program := "ytkkjhpcjemcdjaa", sum := "c6c424bd3c408799fb5244d146eac18aff8f988d44c01cf3382150396999c053", func := "rosary/rosarylaw13.GateLast", spec := "gateLast", unfollowed := true, recurses := true, apart := false, narrowed := true }
def GateLastUptoSaid : Prop := gateLastUptoRow.holds Try.pinned (OpenSpec.upto gateLastSpec)

/-- 'rosarylaw13.GateShut', WHERE WHAT IT READS IS OF BULK AT MOST 1048576: true; the input reads as it did. -/
def gateShutUptoRow : OpenClaim := { program := "ytkkjhpcjemcdjaa", sum := "c6c424bd3c408799fb5244d146eac18aff8f988d44c01cf3382150396999c053", func := "rosary/rosarylaw13.GateShut", spec := "gateShut", unfollowed := true, recurses := true, apart := false, narrowed := true }
def GateShutUptoSaid : Prop := gateShutUptoRow.holds Try.pinned (OpenSpec.upto gateShutSpec)

/-- 'rosarylaw13.GateTicks', WHERE WHAT IT READS IS OF BULK AT MOST 1048576: true; the input reads as it did. -/
def gateTicksUptoRow : OpenClaim := { program := "ytkkjhpcjemcdjaa", sum := "c6c424bd3c408799fb5244d146eac18aff8f988d44c01cf3382150396999c053", func := "rosary/rosarylaw13.GateTicks", spec := "gateTicks", unfollowed := true, recurses := true, apart := false, narrowed := true }
def GateTicksUptoSaid : Prop := gateTicksUptoRow.holds Try.pinned (OpenSpec.upto gateTicksSpec)

/-- 'rosarylaw13.GatePlays', WHERE WHAT IT READS IS OF BULK AT MOST 1048576: true; the input reads as it did. -/
def gatePlaysUptoRow : OpenClaim := { program := "ytkkjhpcjemcdjaa", sum := "c6c424bd3c408799fb5244d146eac18aff8f988d44c01cf3382150396999c053", func := "rosary/rosarylaw13.GatePlays", spec := "gatePlays", unfollowed := true, recurses := true, apart := false, narrowed := true }
def GatePlaysUptoSaid : Prop := gatePlaysUptoRow.holds Try.pinned (OpenSpec.upto gatePlaysSpec)

end Rows
end Go.Proofs.Ytkkjhpcjemcdjaa
