/-
  No cell of these rows narrows 'for every input' (looked for: loops, veiled, ifaces, maps, wideKeys, modest, calm, conditions, laid).
  DERIVED. THE GIVEN ROWS OF THIS SEAT. 5 by the template 'for every input the law returns true; each argument reads behind the call as it read before'; 0 by the template 'total and deterministic' (their statements: YthomemhollhljaaTotals.lean).
  GIVEN WITH THE SEED: the statements are not yours to turn. If you find one false, say at which input.
  Laid BY PROGRAM, IN A SANDBOX (cutbox-rows.mjs): the forced cells as the released guide's own fill.sh prints them over the translation e68d73c8d8515607… (all of the seat's roots in one cut). By AI agents, Wed Nov 11 2026. No macro, syntax, notation, axiom, sorry.
-/
import Derived.Test.YthomemhollhljaaChecked
import GoSem.Claim
import GoSem.ClaimJoined
import GoSem.ClaimMapViews
import Derived.JoinedTies
import Derived.KernelRfl
namespace Go.Proofs.Ythomemhollhljaa
/- THE CELL 'sum', in the pinned program and in every row, IS THE sha256 OF THE DUMP (.gsa) THAT YthomemhollhljaaProg.lean LOADS. Nothing in Lean hashes anything: it is a label: what it is worth is what the hold of that sum in a sandbox is worth. -/
noncomputable def Try.pinned : Pinned := { name := "ythomemhollhljaa", sum := "e68d73c8d8515607842716bf8d77b3b0fede8b81e7c7b0850c6085db4e25a864", checked := Try.checked }
namespace Rows
def none {H : Type} : Left H := { results := [], args := [] }

/-- 'rosarylaw10.SeatTells': WHATEVER THE INPUT: true; the input reads as it did. -/
def seatTellsSpec : ChangeSpec := { name := "seatTells", fn := fun _ => fun
  | [d1, d2, d3, d4, d5, d6] => { results := [.lit (.bool true)], args := [d1, d2, d3, d4, d5, d6] }
  | _ => none }
def seatTellsRow : OpenClaim := { program := "ythomemhollhljaa", sum := "e68d73c8d8515607842716bf8d77b3b0fede8b81e7c7b0850c6085db4e25a864", func := "rosary/rosarylaw10.SeatTells", spec := "seatTells", apart := false }
def SeatTellsSaid : Prop := seatTellsRow.holds Try.pinned (OpenSpec.ofChange seatTellsSpec)

/-- ITS FALSE NEIGHBOUR: 'it returns false'. Refute it at one input. -/
def seatTellsWrong : ChangeSpec := { name := "seatTells", fn := fun _ => fun
  | [d1, d2, d3, d4, d5, d6] => { results := [.lit (.bool false)], args := [d1, d2, d3, d4, d5, d6] }
  | _ => none }
def SeatTellsWrongFalsely : Prop := seatTellsRow.holds Try.pinned (OpenSpec.ofChange seatTellsWrong)

/-- 'rosarylaw10.SeatRoom': WHATEVER THE INPUT: true; the input reads as it did. -/
def seatRoomSpec : ChangeSpec := { name := "seatRoom", fn := fun _ => fun
  | [d1, d2, d3] => { results := [.lit (.bool true)], args := [d1, d2, d3] }
  | _ => none }
def seatRoomRow : OpenClaim := { program := "ythomemhollhljaa", sum := "e68d73c8d8515607842716bf8d77b3b0fede8b81e7c7b0850c6085db4e25a864", func := "rosary/rosarylaw10.SeatRoom", spec := "seatRoom", unfollowed := true, recurses := true, apart := false }
def SeatRoomSaid : Prop := seatRoomRow.holds Try.pinned (OpenSpec.ofChange seatRoomSpec)

/-- ITS FALSE NEIGHBOUR: 'it returns false'. Refute it at one input. -/
def seatRoomWrong : ChangeSpec := { name := "seatRoom", fn := fun _ => fun
  | [d1, d2, d3] => { results := [.lit (.bool false)], args := [d1, d2, d3] }
  | _ => none }
def SeatRoomWrongFalsely : Prop := seatRoomRow.holds Try.pinned (OpenSpec.ofChange seatRoomWrong)

/-- 'rosarylaw10.SeatApart': WHATEVER THE INPUT: true; the input reads as it did. -/
def seatApartSpec : ChangeSpec := { name := "seatApart", fn := fun _ => fun
  | [d1, d2] => { results := [.lit (.bool true)], args := [d1, d2] }
  | _ => none }
def seatApartRow : OpenClaim := { program := "ythomemhollhljaa", sum := "e68d73c8d8515607842716bf8d77b3b0fede8b81e7c7b0850c6085db4e25a864", func := "rosary/rosarylaw10.SeatApart", spec := "seatApart", apart := false }
def SeatApartSaid : Prop := seatApartRow.holds Try.pinned (OpenSpec.ofChange seatApartSpec)

/-- ITS FALSE NEIGHBOUR: 'it returns false'. Refute it at one input. -/
def seatApartWrong : ChangeSpec := { name := "seatApart", fn := fun _ => fun
  | [d1, d2] => { results := [.lit (.bool false)], args := [d1, d2] }
  | _ => none }
def SeatApartWrongFalsely : Prop := seatApartRow.holds Try.pinned (OpenSpec.ofChange seatApartWrong)

/-- 'rosarylaw10.SeatTaken': WHATEVER THE INPUT: true; the input reads as it did. -/
def seatTakenSpec : ChangeSpec := { name := "seatTaken", fn := fun _ => fun
  | [d1, d2, d3] => { results := [.lit (.bool true)], args := [d1, d2, d3] }
  | _ => none }
def seatTakenRow : OpenClaim := { program := "ythomemhollhljaa", sum := "e68d73c8d8515607842716bf8d77b3b0fede8b81e7c7b0850c6085db4e25a864", func := "rosary/rosarylaw10.SeatTaken", spec := "seatTaken", apart := false }
def SeatTakenSaid : Prop := seatTakenRow.holds Try.pinned (OpenSpec.ofChange seatTakenSpec)

/-- ITS FALSE NEIGHBOUR: 'it returns false'. Refute it at one input. -/
def seatTakenWrong : ChangeSpec := { name := "seatTaken", fn := fun _ => fun
  | [d1, d2, d3] => { results := [.lit (.bool false)], args := [d1, d2, d3] }
  | _ => none }
def SeatTakenWrongFalsely : Prop := seatTakenRow.holds Try.pinned (OpenSpec.ofChange seatTakenWrong)

/-- 'rosarylaw10.SeatOne': WHATEVER THE INPUT: true; the input reads as it did. -/
def seatOneSpec : ChangeSpec := { name := "seatOne", fn := fun _ => fun
  | [d1, d2, d3] => { results := [.lit (.bool true)], args := [d1, d2, d3] }
  | _ => none }
def seatOneRow : OpenClaim := { program := "ythomemhollhljaa", sum := "e68d73c8d8515607842716bf8d77b3b0fede8b81e7c7b0850c6085db4e25a864", func := "rosary/rosarylaw10.SeatOne", spec := "seatOne", apart := false }
def SeatOneSaid : Prop := seatOneRow.holds Try.pinned (OpenSpec.ofChange seatOneSpec)

/-- ITS FALSE NEIGHBOUR: 'it returns false'. Refute it at one input. -/
def seatOneWrong : ChangeSpec := { name := "seatOne", fn := fun _ => fun
  | [d1, d2, d3] => { results := [.lit (.bool false)], args := [d1, d2, d3] }
  | _ => none }
def SeatOneWrongFalsely : Prop := seatOneRow.holds Try.pinned (OpenSpec.ofChange seatOneWrong)

/- THE SECOND FORM. 'bulk': how many values and letters a reading holds, each counted each time it is reached (what is shared counts as often as it is met; a slice's spare places count too). A statement '..UptoSaid' is the law's where the arguments, and the package variables that the reading takes, are together of bulk at most 1048576: NARROWER than '..Said'. Prove '..Said' where nothing that the law and all that it calls make is longer than what came in: it says more and counts as full. Else prove '..UptoSaid'. A law counts once. -/
mutual
def uptoBulk {H : Type} : DataW H → Nat
  | .lit (.string bytes) => bytes.length + 1
  | .lit _ => 1
  | .nil => 1
  | .ptr d => uptoBulk d + 1
  | .slice elems spare => uptoBulkAll elems + uptoBulkAll spare + 1
  | .agg parts => uptoBulkAll parts + 1
  | .iface _ d => uptoBulk d + 1
  | .map entries => uptoBulkEntries entries + 1
  | .held _ => 1
def uptoBulkAll {H : Type} : List (DataW H) → Nat
  | [] => 0
  | d :: r => uptoBulk d + uptoBulkAll r
def uptoBulkEntries {H : Type} : List (Lit × DataW H) → Nat
  | [] => 0
  | x :: r => uptoBulkEntry x + uptoBulkEntries r
def uptoBulkEntry {H : Type} : Lit × DataW H → Nat
  | (.string bytes, d) => bytes.length + uptoBulk d + 1
  | (_, d) => uptoBulk d + 1
 end
def uptoSmall : (H : Type) → List (DataW H) → Bool := fun _ ds => decide (uptoBulkAll ds ≤ 1048576)
def OpenSpec.upto (s : _root_.Go.ChangeSpec) : _root_.Go.OpenSpec := { _root_.Go.OpenSpec.ofChange s with cond := some uptoSmall }

/-- 'rosarylaw10.SeatTells', WHERE WHAT IT READS IS OF BULK AT MOST 1048576: true; the input reads as it did. -/
def seatTellsUptoRow : OpenClaim := { program := "ythomemhollhljaa", sum := "e68d73c8d8515607842716bf8d77b3b0fede8b81e7c7b0850c6085db4e25a864", func := "rosary/rosarylaw10.SeatTells", spec := "seatTells", apart := false, narrowed := true }
def SeatTellsUptoSaid : Prop := seatTellsUptoRow.holds Try.pinned (OpenSpec.upto seatTellsSpec)

/-- 'rosarylaw10.SeatRoom', WHERE WHAT IT READS IS OF BULK AT MOST 1048576: true; the input reads as it did. -/
def seatRoomUptoRow : OpenClaim := { program := "ythomemhollhljaa", sum := "e68d73c8d8515607842716bf8d77b3b0fede8b81e7c7b0850c6085db4e25a864", func := "rosary/rosarylaw10.SeatRoom", spec := "seatRoom", unfollowed := true, recurses := true, apart := false, narrowed := true }
def SeatRoomUptoSaid : Prop := seatRoomUptoRow.holds Try.pinned (OpenSpec.upto seatRoomSpec)

/-- 'rosarylaw10.SeatApart', WHERE WHAT IT READS IS OF BULK AT MOST 1048576: true; the input reads as it did. -/
def seatApartUptoRow : OpenClaim := { program := "ythomemhollhljaa", sum := "e68d73c8d8515607842716bf8d77b3b0fede8b81e7c7b0850c6085db4e25a864", func := "rosary/rosarylaw10.SeatApart", spec := "seatApart", apart := false, narrowed := true }
def SeatApartUptoSaid : Prop := seatApartUptoRow.holds Try.pinned (OpenSpec.upto seatApartSpec)

/-- 'rosarylaw10.SeatTaken', WHERE WHAT IT READS IS OF BULK AT MOST 1048576: true; the input reads as it did. -/
def seatTakenUptoRow : OpenClaim := { program := "ythomemhollhljaa", sum := "e68d73c8d8515607842716bf8d77b3b0fede8b81e7c7b0850c6085db4e25a864", func := "rosary/rosarylaw10.SeatTaken", spec := "seatTaken", apart := false, narrowed := true }
def SeatTakenUptoSaid : Prop := seatTakenUptoRow.holds Try.pinned (OpenSpec.upto seatTakenSpec)

/-- 'rosarylaw10.SeatOne', WHERE WHAT IT READS IS OF BULK AT MOST 1048576: true; the input reads as it did. -/
def seatOneUptoRow : OpenClaim := { program := "ythomemhollhljaa", sum := "e68d73c8d8515607842716bf8d77b3b0fede8b81e7c7b0850c6085db4e25a864", func := "rosary/rosarylaw10.SeatOne", spec := "seatOne", apart := false, narrowed := true }
def SeatOneUptoSaid : Prop := seatOneUptoRow.holds Try.pinned (OpenSpec.upto seatOneSpec)

end Rows
end Go.Proofs.Ythomemhollhljaa
