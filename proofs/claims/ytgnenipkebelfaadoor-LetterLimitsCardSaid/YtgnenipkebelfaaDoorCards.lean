/-
  DERIVED. GIVEN WITH THE SEED: THE CARDS: each row of YtgnenipkebelfaaDoorRows.lean that lists a variable, with what it lists TIED to the program's text (the seventh form; the later family's looks); each row that meets fmt, with fmt's text TOLD by the authors' own Lean function (tested against real Go, not proved from fmt's source: count such statements apart). THE CARD IS WHAT COUNTS. Prove the row's statement (the work); the ties are given (YtgnenipkebelfaaDoorTie.lean); close each card by the builder's one call (the guide's Derived/Test/ToyasCard.lean, 'card_holds'). Laid BY PROGRAM, IN A SANDBOX (cutbox-door.mjs). By AI agents, Wed Nov 11 2026. No macro, syntax, notation, axiom, sorry.
-/
import Derived.Test.YtgnenipkebelfaaDoorRows
import GoSem.ClaimSeven
namespace Go.Proofs.YtgnenipkebelfaaDoor
namespace Rows

/-- THE TIED CARD OF 'rosarylaw7.LetterCuts'. -/
def letterCutsCard : Claim7 := { stood := { row := letterCutsRow, standIns := [], harness := (true, "e448bf9e2dc58e14957dc7a37053123b00053d6076329cb4e253afccfbd9cb17"), looks := false }, kinds := [], alts := [], laidByText := true, laidKinds := [.listed, .data], laidTests := true, laidLooks := .later }
def LetterCutsCardSaid : Prop := Claim7.holds Tryd.pinned (.plain (OpenSpec.ofChange letterCutsSpec)) letterCutsCard

/-- THE TIED CARD OF 'rosarylaw7.LetterTwo'. -/
def letterTwoCard : Claim7 := { stood := { row := letterTwoRow, standIns := [], harness := (true, "e448bf9e2dc58e14957dc7a37053123b00053d6076329cb4e253afccfbd9cb17"), looks := false }, kinds := [], alts := [], laidByText := true, laidKinds := [.listed, .data], laidTests := true, laidLooks := .later }
def LetterTwoCardSaid : Prop := Claim7.holds Tryd.pinned (.plain (OpenSpec.ofChange letterTwoSpec)) letterTwoCard

/-- THE TIED CARD OF 'rosarylaw7.LetterKinds'. -/
def letterKindsCard : Claim7 := { stood := { row := letterKindsRow, standIns := [], harness := (true, "e448bf9e2dc58e14957dc7a37053123b00053d6076329cb4e253afccfbd9cb17"), looks := false }, kinds := [], alts := [], laidByText := true, laidKinds := [.listed, .data], laidTests := true, laidLooks := .later }
def LetterKindsCardSaid : Prop := Claim7.holds Tryd.pinned (.plain (OpenSpec.ofChange letterKindsSpec)) letterKindsCard

/-- THE TIED CARD OF 'rosarylaw7.LetterLimits'. -/
def letterLimitsCard : Claim7 := { stood := { row := letterLimitsRow, standIns := [], harness := (true, "e448bf9e2dc58e14957dc7a37053123b00053d6076329cb4e253afccfbd9cb17"), looks := false }, kinds := [], alts := [], laidByText := true, laidKinds := [.listed, .data], laidTests := true, laidLooks := .later }
def LetterLimitsCardSaid : Prop := Claim7.holds Tryd.pinned (.plain (OpenSpec.ofChange letterLimitsSpec)) letterLimitsCard

/-- THE TIED CARD OF 'rosarylaw7.PacketAcks'. -/
def packetAcksCard : Claim7 := { stood := { row := packetAcksRow, standIns := [], harness := (true, "e448bf9e2dc58e14957dc7a37053123b00053d6076329cb4e253afccfbd9cb17"), looks := false }, kinds := [], alts := [], laidByText := true, laidKinds := [.listed, .data], laidTests := true, laidLooks := .later }
def PacketAcksCardSaid : Prop := Claim7.holds Tryd.pinned (.plain (OpenSpec.ofChange packetAcksSpec)) packetAcksCard

/-- THE TIED CARD OF 'rosarylaw7.PacketTells'. -/
def packetTellsCard : Claim7 := { stood := { row := packetTellsRow, standIns := [], harness := (true, "e448bf9e2dc58e14957dc7a37053123b00053d6076329cb4e253afccfbd9cb17"), looks := false }, kinds := [], alts := [], laidByText := true, laidKinds := [.listed, .data], laidTests := true, laidLooks := .later }
def PacketTellsCardSaid : Prop := Claim7.holds Tryd.pinned (.plain (OpenSpec.ofChange packetTellsSpec)) packetTellsCard

/-- THE TIED CARD OF 'rosarylaw7.PacketCuts'. -/
def packetCutsCard : Claim7 := { stood := { row := packetCutsRow, standIns := [], harness := (true, "e448bf9e2dc58e14957dc7a37053123b00053d6076329cb4e253afccfbd9cb17"), looks := false }, kinds := [], alts := [], laidByText := true, laidKinds := [.listed, .data], laidTests := true, laidLooks := .later }
def PacketCutsCardSaid : Prop := Claim7.holds Tryd.pinned (.plain (OpenSpec.ofChange packetCutsSpec)) packetCutsCard

/-- THE SECOND FORM's CARD OF 'rosarylaw7.LetterCuts'. -/
def letterCutsUptoCard : Claim7 := { stood := { row := letterCutsUptoRow, standIns := [], harness := (true, "e448bf9e2dc58e14957dc7a37053123b00053d6076329cb4e253afccfbd9cb17"), looks := false }, kinds := [], alts := [], laidByText := true, laidKinds := [.listed, .data], laidTests := true, laidLooks := .later }
def LetterCutsUptoCardSaid : Prop := Claim7.holds Tryd.pinned (.plain (OpenSpec.upto letterCutsSpec)) letterCutsUptoCard

/-- THE SECOND FORM's CARD OF 'rosarylaw7.LetterTwo'. -/
def letterTwoUptoCard : Claim7 := { stood := { row := letterTwoUptoRow, standIns := [], harness := (true, "e448bf9e2dc58e14957dc7a37053123b00053d6076329cb4e253afccfbd9cb17"), looks := false }, kinds := [], alts := [], laidByText := true, laidKinds := [.listed, .data], laidTests := true, laidLooks := .later }
def LetterTwoUptoCardSaid : Prop := Claim7.holds Tryd.pinned (.plain (OpenSpec.upto letterTwoSpec)) letterTwoUptoCard

/-- THE SECOND FORM's CARD OF 'rosarylaw7.LetterKinds'. -/
def letterKindsUptoCard : Claim7 := { stood := { row := letterKindsUptoRow, standIns := [], harness := (true, "e448bf9e2dc58e14957dc7a37053123b00053d6076329cb4e253afccfbd9cb17"), looks := false }, kinds := [], alts := [], laidByText := true, laidKinds := [.listed, .data], laidTests := true, laidLooks := .later }
def LetterKindsUptoCardSaid : Prop := Claim7.holds Tryd.pinned (.plain (OpenSpec.upto letterKindsSpec)) letterKindsUptoCard

/-- THE SECOND FORM's CARD OF 'rosarylaw7.LetterLimits'. -/
def letterLimitsUptoCard : Claim7 := { stood := { row := letterLimitsUptoRow, standIns := [], harness := (true, "e448bf9e2dc58e14957dc7a37053123b00053d6076329cb4e253afccfbd9cb17"), looks := false }, kinds := [], alts := [], laidByText := true, laidKinds := [.listed, .data], laidTests := true, laidLooks := .later }
def LetterLimitsUptoCardSaid : Prop := Claim7.holds Tryd.pinned (.plain (OpenSpec.upto letterLimitsSpec)) letterLimitsUptoCard

/-- THE SECOND FORM's CARD OF 'rosarylaw7.PacketAcks'. -/
def packetAcksUptoCard : Claim7 := { stood := { row := packetAcksUptoRow, standIns := [], harness := (true, "e448bf9e2dc58e14957dc7a37053123b00053d6076329cb4e253afccfbd9cb17"), looks := false }, kinds := [], alts := [], laidByText := true, laidKinds := [.listed, .data], laidTests := true, laidLooks := .later }
def PacketAcksUptoCardSaid : Prop := Claim7.holds Tryd.pinned (.plain (OpenSpec.upto packetAcksSpec)) packetAcksUptoCard

/-- THE SECOND FORM's CARD OF 'rosarylaw7.PacketTells'. -/
def packetTellsUptoCard : Claim7 := { stood := { row := packetTellsUptoRow, standIns := [], harness := (true, "e448bf9e2dc58e14957dc7a37053123b00053d6076329cb4e253afccfbd9cb17"), looks := false }, kinds := [], alts := [], laidByText := true, laidKinds := [.listed, .data], laidTests := true, laidLooks := .later }
def PacketTellsUptoCardSaid : Prop := Claim7.holds Tryd.pinned (.plain (OpenSpec.upto packetTellsSpec)) packetTellsUptoCard

/-- THE SECOND FORM's CARD OF 'rosarylaw7.PacketCuts'. -/
def packetCutsUptoCard : Claim7 := { stood := { row := packetCutsUptoRow, standIns := [], harness := (true, "e448bf9e2dc58e14957dc7a37053123b00053d6076329cb4e253afccfbd9cb17"), looks := false }, kinds := [], alts := [], laidByText := true, laidKinds := [.listed, .data], laidTests := true, laidLooks := .later }
def PacketCutsUptoCardSaid : Prop := Claim7.holds Tryd.pinned (.plain (OpenSpec.upto packetCutsSpec)) packetCutsUptoCard
end Rows
end Go.Proofs.YtgnenipkebelfaaDoor
