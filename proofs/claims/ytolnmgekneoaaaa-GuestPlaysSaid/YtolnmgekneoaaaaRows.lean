/-
  No cell of these rows narrows 'for every input' (looked for: loops, veiled, ifaces, maps, wideKeys, modest, calm, conditions, laid).
  DERIVED. THE GIVEN ROWS OF THIS SEAT. 7 by the template 'for every input the law returns true; each argument reads behind the call as it read before'; 0 by the template 'total and deterministic' (their statements: YtolnmgekneoaaaaTotals.lean).
  GIVEN WITH THE SEED: the statements are not yours to turn. If you find one false, say at which input.
  Laid BY PROGRAM, IN A SANDBOX (cutbox-rows.mjs): the forced cells as the released guide's own fill.sh prints them over the translation 6ae72788b3bf85a4… (all of the seat's roots in one cut). By AI agents, Wed Nov 11 2026. No macro, syntax, notation, axiom, sorry.
-/
import Derived.Test.YtolnmgekneoaaaaChecked
import GoSem.Claim
import GoSem.ClaimJoined
import GoSem.ClaimMapViews
import Derived.JoinedTies
import Derived.KernelRfl
namespace Go.Proofs.Ytolnmgekneoaaaa
/- THE CELL 'sum', in the pinned program and in every row, IS THE sha256 OF THE DUMP (.gsa) THAT YtolnmgekneoaaaaProg.lean LOADS. Nothing in Lean hashes anything: it is a label: what it is worth is what the hold of that sum in a sandbox is worth. -/
noncomputable def Try.pinned : Pinned := { name := "ytolnmgekneoaaaa", sum := "6ae72788b3bf85a430a39f94c6d46fc53262b646cf65ca5b3a094b833bea3e62", checked := Try.checked }
namespace Rows
def none {H : Type} : Left H := { results := [], args := [] }

/-- 'rosarylaw21.GuestOnce': WHATEVER THE INPUT: true; the input reads as it did. -/
def guestOnceSpec : ChangeSpec := { name := "guestOnce", fn := fun _ => fun
  | [d1, d2] => { results := [.lit (.bool true)], args := [d1, d2] }
  | _ => none }
def guestOnceRow : OpenClaim := { program := "ytolnmgekneoaaaa", sum := "6ae72788b3bf85a430a39f94c6d46fc53262b646cf65ca5b3a094b833bea3e62", func := "rosary/rosarylaw21.GuestOnce", spec := "guestOnce", apart := false }
def GuestOnceSaid : Prop := guestOnceRow.holds Try.pinned (OpenSpec.ofChange guestOnceSpec)

/-- ITS FALSE NEIGHBOUR: 'it returns false'. Refute it at one input. -/
def guestOnceWrong : ChangeSpec := { name := "guestOnce", fn := fun _ => fun
  | [d1, d2] => { results := [.lit (.bool false)], args := [d1, d2] }
  | _ => none }
def GuestOnceWrongFalsely : Prop := guestOnceRow.holds Try.pinned (OpenSpec.ofChange guestOnceWrong)

/-- 'rosarylaw21.GuestMay': WHATEVER THE INPUT: true; the input reads as it did. -/
def guestMaySpec : ChangeSpec := { name := "guestMay", fn := fun _ => fun
  | [d1, d2, d3] => { results := [.lit (.bool true)], args := [d1, d2, d3] }
  | _ => none }
def guestMayRow : OpenClaim := { program := "ytolnmgekneoaaaa", sum := "6ae72788b3bf85a430a39f94c6d46fc53262b646cf65ca5b3a094b833bea3e62", func := "rosary/rosarylaw21.GuestMay", spec := "guestMay", apart := false }
def GuestMaySaid : Prop := guestMayRow.holds Try.pinned (OpenSpec.ofChange guestMaySpec)

/-- ITS FALSE NEIGHBOUR: 'it returns false'. Refute it at one input. -/
def guestMayWrong : ChangeSpec := { name := "guestMay", fn := fun _ => fun
  | [d1, d2, d3] => { results := [.lit (.bool false)], args := [d1, d2, d3] }
  | _ => none }
def GuestMayWrongFalsely : Prop := guestMayRow.holds Try.pinned (OpenSpec.ofChange guestMayWrong)

/-- 'rosarylaw21.GuestRounds': WHATEVER THE INPUT: true; the input reads as it did. -/
def guestRoundsSpec : ChangeSpec := { name := "guestRounds", fn := fun _ => fun
  | [d1, d2] => { results := [.lit (.bool true)], args := [d1, d2] }
  | _ => none }
def guestRoundsRow : OpenClaim := { program := "ytolnmgekneoaaaa", sum := "6ae72788b3bf85a430a39f94c6d46fc53262b646cf65ca5b3a094b833bea3e62", func := "rosary/rosarylaw21.GuestRounds", spec := "guestRounds", apart := false }
def GuestRoundsSaid : Prop := guestRoundsRow.holds Try.pinned (OpenSpec.ofChange guestRoundsSpec)

/-- ITS FALSE NEIGHBOUR: 'it returns false'. Refute it at one input. -/
def guestRoundsWrong : ChangeSpec := { name := "guestRounds", fn := fun _ => fun
  | [d1, d2] => { results := [.lit (.bool false)], args := [d1, d2] }
  | _ => none }
def GuestRoundsWrongFalsely : Prop := guestRoundsRow.holds Try.pinned (OpenSpec.ofChange guestRoundsWrong)

/-- 'rosarylaw21.GuestEnds': WHATEVER THE INPUT: true; the input reads as it did. -/
def guestEndsSpec : ChangeSpec := { name := "guestEnds", fn := fun _ => fun
  | [d1, d2] => { results := [.lit (.bool true)], args := [d1, d2] }
  | _ => none }
def guestEndsRow : OpenClaim := { program := "ytolnmgekneoaaaa", sum := "6ae72788b3bf85a430a39f94c6d46fc53262b646cf65ca5b3a094b833bea3e62", func := "rosary/rosarylaw21.GuestEnds", spec := "guestEnds", apart := false }
def GuestEndsSaid : Prop := guestEndsRow.holds Try.pinned (OpenSpec.ofChange guestEndsSpec)

/-- ITS FALSE NEIGHBOUR: 'it returns false'. Refute it at one input. -/
def guestEndsWrong : ChangeSpec := { name := "guestEnds", fn := fun _ => fun
  | [d1, d2] => { results := [.lit (.bool false)], args := [d1, d2] }
  | _ => none }
def GuestEndsWrongFalsely : Prop := guestEndsRow.holds Try.pinned (OpenSpec.ofChange guestEndsWrong)

/-- 'rosarylaw21.GuestTime': WHATEVER THE INPUT: true; the input reads as it did. -/
def guestTimeSpec : ChangeSpec := { name := "guestTime", fn := fun _ => fun
  | [d] => { results := [.lit (.bool true)], args := [d] }
  | _ => none }
def guestTimeRow : OpenClaim := { program := "ytolnmgekneoaaaa", sum := "6ae72788b3bf85a430a39f94c6d46fc53262b646cf65ca5b3a094b833bea3e62", func := "rosary/rosarylaw21.GuestTime", spec := "guestTime", apart := false }
def GuestTimeSaid : Prop := guestTimeRow.holds Try.pinned (OpenSpec.ofChange guestTimeSpec)

/-- ITS FALSE NEIGHBOUR: 'it returns false'. Refute it at one input. -/
def guestTimeWrong : ChangeSpec := { name := "guestTime", fn := fun _ => fun
  | [d] => { results := [.lit (.bool false)], args := [d] }
  | _ => none }
def GuestTimeWrongFalsely : Prop := guestTimeRow.holds Try.pinned (OpenSpec.ofChange guestTimeWrong)

/-- 'rosarylaw21.GuestPlays': WHATEVER THE INPUT: true; the input reads as it did. -/
def guestPlaysSpec : ChangeSpec := { name := "guestPlays", fn := fun _ => fun
  | [d1, d2, d3] => { results := [.lit (.bool true)], args := [d1, d2, d3] }
  | _ => none }
def guestPlaysRow : OpenClaim := { program := "ytolnmgekneoaaaa", sum := "6ae72788b3bf85a430a39f94c6d46fc53262b646cf65ca5b3a094b833bea3e62", func := "rosary/rosarylaw21.GuestPlays", spec := "guestPlays", apart := false }
def GuestPlaysSaid : Prop := guestPlaysRow.holds Try.pinned (OpenSpec.ofChange guestPlaysSpec)

/-- ITS FALSE NEIGHBOUR: 'it returns false'. Refute it at one input. -/
def guestPlaysWrong : ChangeSpec := { name := "guestPlays", fn := fun _ => fun
  | [d1, d2, d3] => { results := [.lit (.bool false)], args := [d1, d2, d3] }
  | _ => none }
def GuestPlaysWrongFalsely : Prop := guestPlaysRow.holds Try.pinned (OpenSpec.ofChange guestPlaysWrong)

/-- 'rosarylaw21.GuestBusy': WHATEVER THE INPUT: true; the input reads as it did. -/
def guestBusySpec : ChangeSpec := { name := "guestBusy", fn := fun _ => fun
  | [d1, d2] => { results := [.lit (.bool true)], args := [d1, d2] }
  | _ => none }
def guestBusyRow : OpenClaim := { program := "ytolnmgekneoaaaa", sum := "6ae72788b3bf85a430a39f94c6d46fc53262b646cf65ca5b3a094b833bea3e62", func := "rosary/rosarylaw21.GuestBusy", spec := "guestBusy", apart := false }
def GuestBusySaid : Prop := guestBusyRow.holds Try.pinned (OpenSpec.ofChange guestBusySpec)

/-- ITS FALSE NEIGHBOUR: 'it returns false'. Refute it at one input. -/
def guestBusyWrong : ChangeSpec := { name := "guestBusy", fn := fun _ => fun
  | [d1, d2] => { results := [.lit (.bool false)], args := [d1, d2] }
  | _ => none }
def GuestBusyWrongFalsely : Prop := guestBusyRow.holds Try.pinned (OpenSpec.ofChange guestBusyWrong)

/- THE SECOND FORM. 'bulk': how many values and letters a reading holds, each counted each time it is reached (what is shared counts as often as it is met; a slice's spare places count too). A statement '..UptoSaid' is the law's where the arguments, and the package variables that the reading takes, are together of bulk at most 1048576: NARROWER than '..Said'. Prove '..Said' where nothing that the law and all that it calls make is longer than what came in: it says more and counts as full. Else prove '..UptoSaid'. A law counts once. -/
mutual
def uptoBulk {H : Type} : DataW H → Nat
  | .lit (.string bytes) => bytes.length + 1
  | .lit _ => 1
  | .nil => 1
  | .ptr d => uptoBulk d + 1
  | .slice elems spare => uptoBulkAll elems + uptoBulkAll spare + 1
  | .agg parts => uptoBulkAll parts + 1
  | .iface _ d => uptoBulk d + 1
  | .map entries => uptoBulkEntries entries + 1
  | .held _ => 1
def uptoBulkAll {H : Type} : List (DataW H) → Nat
  | [] => 0
  | d :: r => uptoBulk d + uptoBulkAll r
def uptoBulkEntries {H : Type} : List (Lit × DataW H) → Nat
  | [] => 0
  | x :: r => uptoBulkEntry x + uptoBulkEntries r
def uptoBulkEntry {H : Type} : Lit × DataW H → Nat
  | (.string bytes, d) => bytes.length + uptoBulk d + 1
  | (_, d) => uptoBulk d + 1
 end
def uptoSmall : (H : Type) → List (DataW H) → Bool := fun _ ds => decide (uptoBulkAll ds ≤ 1048576)
def OpenSpec.upto (s : _root_.Go.ChangeSpec) : _root_.Go.OpenSpec := { _root_.Go.OpenSpec.ofChange s with cond := some uptoSmall }

/-- 'rosarylaw21.GuestOnce', WHERE WHAT IT READS IS OF BULK AT MOST 1048576: true; the input reads as it did. -/
def guestOnceUptoRow : OpenClaim := { program := "ytolnmgekneoaaaa", sum := "6ae72788b3bf85a430a39f94c6d46fc53262b646cf65ca5b3a094b833bea3e62", func := "rosary/rosarylaw21.GuestOnce", spec := "guestOnce", apart := false, narrowed := true }
def GuestOnceUptoSaid : Prop := guestOnceUptoRow.holds Try.pinned (OpenSpec.upto guestOnceSpec)

/-- 'rosarylaw21.GuestMay', WHERE WHAT IT READS IS OF BULK AT MOST 1048576: true; the input reads as it did. -/
def guestMayUptoRow : OpenClaim := { program := "ytolnmgekneoaaaa", sum := "6ae72788b3bf85a430a39f94c6d46fc53262b646cf65ca5b3a094b833bea3e62", func := "rosary/rosarylaw21.GuestMay", spec := "guestMay", apart := false, narrowed := true }
def GuestMayUptoSaid : Prop := guestMayUptoRow.holds Try.pinned (OpenSpec.upto guestMaySpec)

/-- 'rosarylaw21.GuestRounds', WHERE WHAT IT READS IS OF BULK AT MOST 1048576: true; the input reads as it did. -/
def guestRoundsUptoRow : OpenClaim := { program := "ytolnmgekneoaaaa", sum := "6ae72788b3bf85a430a39f94c6d46fc53262b646cf65ca5b3a094b833bea3e62", func := "rosary/rosarylaw21.GuestRounds", spec := "guestRounds", apart := false, narrowed := true }
def GuestRoundsUptoSaid : Prop := guestRoundsUptoRow.holds Try.pinned (OpenSpec.upto guestRoundsSpec)

/-- 'rosarylaw21.GuestEnds', WHERE WHAT IT READS IS OF BULK AT MOST 1048576: true; the input reads as it did. -/
def guestEndsUptoRow : OpenClaim := { program := "ytolnmgekneoaaaa", sum := "6ae72788b3bf85a430a39f94c6d46fc53262b646cf65ca5b3a094b833bea3e62", func := "rosary/rosarylaw21.GuestEnds", spec := "guestEnds", apart := false, narrowed := true }
def GuestEndsUptoSaid : Prop := guestEndsUptoRow.holds Try.pinned (OpenSpec.upto guestEndsSpec)

/-- 'rosarylaw21.GuestTime', WHERE WHAT IT READS IS OF BULK AT MOST 1048576: true; the input reads as it did. -/
def guestTimeUptoRow : OpenClaim := { program := "ytolnmgekneoaaaa", sum := "6ae72788b3bf85a430a39f94c6d46fc53262b646cf65ca5b3a094b833bea3e62", func := "rosary/rosarylaw21.GuestTime", spec := "guestTime", apart := false, narrowed := true }
def GuestTimeUptoSaid : Prop := guestTimeUptoRow.holds Try.pinned (OpenSpec.upto guestTimeSpec)

/-- 'rosarylaw21.GuestPlays', WHERE WHAT IT READS IS OF BULK AT MOST 1048576: true; the input reads as it did. -/
def guestPlaysUptoRow : OpenClaim := { program := "ytolnmgekneoaaaa", sum := "6ae72788b3bf85a430a39f94c6d46fc53262b646cf65ca5b3a094b833bea3e62", func := "rosary/rosarylaw21.GuestPlays", spec := "guestPlays", apart := false, narrowed := true }
def GuestPlaysUptoSaid : Prop := guestPlaysUptoRow.holds Try.pinned (OpenSpec.upto guestPlaysSpec)

/-- 'rosarylaw21.GuestBusy', WHERE WHAT IT READS IS OF BULK AT MOST 1048576: true; the input reads as it did. -/
def guestBusyUptoRow : OpenClaim := { program := "ytolnmgekneoaaaa", sum := "6ae72788b3bf85a430a39f94c6d46fc53262b646cf65ca5b3a094b833bea3e62", func := "rosary/rosarylaw21.GuestBusy", spec := "guestBusy", apart := false, narrowed := true }
def GuestBusyUptoSaid : Prop := guestBusyUptoRow.holds Try.pinned (OpenSpec.upto guestBusySpec)

end Rows
end Go.Proofs.Ytolnmgekneoaaaa
