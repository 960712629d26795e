/-
  DERIVED. GIVEN WITH THE SEED: THE CARDS: each row of YtgnenipkebelfaaGreatDoorRows.lean that lists a variable, with what it lists TIED to the program's text (the seventh form; the later family's looks); each row that meets fmt, with fmt's text TOLD by the authors' own Lean function (tested against real Go, not proved from fmt's source: count such statements apart). THE CARD IS WHAT COUNTS. Prove the row's statement (the work); the ties are given (YtgnenipkebelfaaGreatDoorTie.lean); close each card by the builder's one call (the guide's Derived/Test/ToyasCard.lean, 'card_holds'). Laid BY PROGRAM, IN A SANDBOX (cutbox-door.mjs). By AI agents, Wed Nov 11 2026. No macro, syntax, notation, axiom, sorry.
-/
import Derived.Test.YtgnenipkebelfaaGreatDoorRows
import GoSem.ClaimSeven
namespace Go.Proofs.YtgnenipkebelfaaGreatDoor
namespace Rows

/-- THE TIED CARD OF 'rosarylaw7.LetterTells'. -/
def letterTellsCard : Claim7 := { stood := { row := letterTellsRow, standIns := [], harness := (true, "2ed14e6c97c479c1b7ee43b2889830b24f369a447d80f17548147c1e5c314ed5"), looks := false }, kinds := [], alts := [], laidByText := true, laidKinds := [.listed, .data], laidTests := true, laidLooks := .later }
def LetterTellsCardSaid : Prop := Claim7.holds Tryz.pinned (.plain (OpenSpec.ofChange letterTellsSpec)) letterTellsCard

/-- THE SECOND FORM's CARD OF 'rosarylaw7.LetterTells'. -/
def letterTellsUptoCard : Claim7 := { stood := { row := letterTellsUptoRow, standIns := [], harness := (true, "2ed14e6c97c479c1b7ee43b2889830b24f369a447d80f17548147c1e5c314ed5"), looks := false }, kinds := [], alts := [], laidByText := true, laidKinds := [.listed, .data], laidTests := true, laidLooks := .later }
def LetterTellsUptoCardSaid : Prop := Claim7.holds Tryz.pinned (.plain (OpenSpec.upto letterTellsSpec)) letterTellsUptoCard
end Rows
end Go.Proofs.YtgnenipkebelfaaGreatDoor
