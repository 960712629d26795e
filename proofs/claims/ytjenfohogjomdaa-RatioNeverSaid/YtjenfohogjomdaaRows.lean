/-
  No cell of these rows narrows 'for every input' (looked for: loops, veiled, ifaces, maps, wideKeys, modest, calm, conditions, laid).
  DERIVED. THE GIVEN ROWS OF THIS SEAT. 7 by the template 'for every input the law returns true; each argument reads behind the call as it read before'; 0 by the template 'total and deterministic' (their statements: YtjenfohogjomdaaTotals.lean).
  GIVEN WITH THE SEED: the statements are not yours to turn. If you find one false, say at which input.
  Laid BY PROGRAM, IN A SANDBOX (cutbox-rows.mjs): the forced cells as the released guide's own fill.sh prints them over the translation b38f38c37e973e77… (all of the seat's roots in one cut). By AI agents, Wed Nov 11 2026. No macro, syntax, notation, axiom, sorry.
-/
import Derived.Test.YtjenfohogjomdaaChecked
import GoSem.Claim
import GoSem.ClaimJoined
import GoSem.ClaimMapViews
import Derived.JoinedTies
import Derived.KernelRfl
namespace Go.Proofs.Ytjenfohogjomdaa
/- THE CELL 'sum', in the pinned program and in every row, IS THE sha256 OF THE DUMP (.gsa) THAT YtjenfohogjomdaaProg.lean LOADS. Nothing in Lean hashes anything: it is a label: what it is worth is what the hold of that sum in a sandbox is worth. -/
noncomputable def Try.pinned : Pinned := { name := "ytjenfohogjomdaa", sum := "b38f38c37e973e77b62d97d71e3873e3c4666ede432dd0fe5e92e8f83199f5d2", checked := Try.checked }
namespace Rows
def none {H : Type} : Left H := { results := [], args := [] }

/-- 'rosarylaw18.RatioEven': WHATEVER THE INPUT: true; the input reads as it did. -/
def ratioEvenSpec : ChangeSpec := { name := "ratioEven", fn := fun _ => fun
  | [d1, d2] => { results := [.lit (.bool true)], args := [d1, d2] }
  | _ => none }
def ratioEvenRow : OpenClaim := { program := "ytjenfohogjomdaa", sum := "b38f38c37e973e77b62d97d71e3873e3c4666ede432dd0fe5e92e8f83199f5d2", func := "rosary/rosarylaw18.RatioEven", spec := "ratioEven", apart := false }
def RatioEvenSaid : Prop := ratioEvenRow.holds Try.pinned (OpenSpec.ofChange ratioEvenSpec)

/-- ITS FALSE NEIGHBOUR: 'it returns false'. Refute it at one input. -/
def ratioEvenWrong : ChangeSpec := { name := "ratioEven", fn := fun _ => fun
  | [d1, d2] => { results := [.lit (.bool false)], args := [d1, d2] }
  | _ => none }
def RatioEvenWrongFalsely : Prop := ratioEvenRow.holds Try.pinned (OpenSpec.ofChange ratioEvenWrong)

/-- 'rosarylaw18.RatioSums': WHATEVER THE INPUT: true; the input reads as it did. -/
def ratioSumsSpec : ChangeSpec := { name := "ratioSums", fn := fun _ => fun
  | [d1, d2] => { results := [.lit (.bool true)], args := [d1, d2] }
  | _ => none }
def ratioSumsRow : OpenClaim := { program := "ytjenfohogjomdaa", sum := "b38f38c37e973e77b62d97d71e3873e3c4666ede432dd0fe5e92e8f83199f5d2", func := "rosary/rosarylaw18.RatioSums", spec := "ratioSums", apart := false }
def RatioSumsSaid : Prop := ratioSumsRow.holds Try.pinned (OpenSpec.ofChange ratioSumsSpec)

/-- ITS FALSE NEIGHBOUR: 'it returns false'. Refute it at one input. -/
def ratioSumsWrong : ChangeSpec := { name := "ratioSums", fn := fun _ => fun
  | [d1, d2] => { results := [.lit (.bool false)], args := [d1, d2] }
  | _ => none }
def RatioSumsWrongFalsely : Prop := ratioSumsRow.holds Try.pinned (OpenSpec.ofChange ratioSumsWrong)

/-- 'rosarylaw18.RatioTells': WHATEVER THE INPUT: true; the input reads as it did. -/
def ratioTellsSpec : ChangeSpec := { name := "ratioTells", fn := fun _ => fun
  | [d1, d2, d3, d4, d5] => { results := [.lit (.bool true)], args := [d1, d2, d3, d4, d5] }
  | _ => none }
def ratioTellsRow : OpenClaim := { program := "ytjenfohogjomdaa", sum := "b38f38c37e973e77b62d97d71e3873e3c4666ede432dd0fe5e92e8f83199f5d2", func := "rosary/rosarylaw18.RatioTells", spec := "ratioTells", apart := false }
def RatioTellsSaid : Prop := ratioTellsRow.holds Try.pinned (OpenSpec.ofChange ratioTellsSpec)

/-- ITS FALSE NEIGHBOUR: 'it returns false'. Refute it at one input. -/
def ratioTellsWrong : ChangeSpec := { name := "ratioTells", fn := fun _ => fun
  | [d1, d2, d3, d4, d5] => { results := [.lit (.bool false)], args := [d1, d2, d3, d4, d5] }
  | _ => none }
def RatioTellsWrongFalsely : Prop := ratioTellsRow.holds Try.pinned (OpenSpec.ofChange ratioTellsWrong)

/-- 'rosarylaw18.RatioSquares': WHATEVER THE INPUT: true; the input reads as it did. -/
def ratioSquaresSpec : ChangeSpec := { name := "ratioSquares", fn := fun _ => fun
  | [d1, d2, d3, d4] => { results := [.lit (.bool true)], args := [d1, d2, d3, d4] }
  | _ => none }
def ratioSquaresRow : OpenClaim := { program := "ytjenfohogjomdaa", sum := "b38f38c37e973e77b62d97d71e3873e3c4666ede432dd0fe5e92e8f83199f5d2", func := "rosary/rosarylaw18.RatioSquares", spec := "ratioSquares", apart := false }
def RatioSquaresSaid : Prop := ratioSquaresRow.holds Try.pinned (OpenSpec.ofChange ratioSquaresSpec)

/-- ITS FALSE NEIGHBOUR: 'it returns false'. Refute it at one input. -/
def ratioSquaresWrong : ChangeSpec := { name := "ratioSquares", fn := fun _ => fun
  | [d1, d2, d3, d4] => { results := [.lit (.bool false)], args := [d1, d2, d3, d4] }
  | _ => none }
def RatioSquaresWrongFalsely : Prop := ratioSquaresRow.holds Try.pinned (OpenSpec.ofChange ratioSquaresWrong)

/-- 'rosarylaw18.RatioPlans': WHATEVER THE INPUT: true; the input reads as it did. -/
def ratioPlansSpec : ChangeSpec := { name := "ratioPlans", fn := fun _ => fun
  | [d1, d2, d3, d4, d5, d6, d7] => { results := [.lit (.bool true)], args := [d1, d2, d3, d4, d5, d6, d7] }
  | _ => none }
def ratioPlansRow : OpenClaim := { program := "ytjenfohogjomdaa", sum := "b38f38c37e973e77b62d97d71e3873e3c4666ede432dd0fe5e92e8f83199f5d2", func := "rosary/rosarylaw18.RatioPlans", spec := "ratioPlans", apart := false }
def RatioPlansSaid : Prop := ratioPlansRow.holds Try.pinned (OpenSpec.ofChange ratioPlansSpec)

/-- ITS FALSE NEIGHBOUR: 'it returns false'. Refute it at one input. -/
def ratioPlansWrong : ChangeSpec := { name := "ratioPlans", fn := fun _ => fun
  | [d1, d2, d3, d4, d5, d6, d7] => { results := [.lit (.bool false)], args := [d1, d2, d3, d4, d5, d6, d7] }
  | _ => none }
def RatioPlansWrongFalsely : Prop := ratioPlansRow.holds Try.pinned (OpenSpec.ofChange ratioPlansWrong)

/-- 'rosarylaw18.RatioHelps': WHATEVER THE INPUT: true; the input reads as it did. -/
def ratioHelpsSpec : ChangeSpec := { name := "ratioHelps", fn := fun _ => fun
  | [d1, d2, d3, d4, d5, d6, d7] => { results := [.lit (.bool true)], args := [d1, d2, d3, d4, d5, d6, d7] }
  | _ => none }
def ratioHelpsRow : OpenClaim := { program := "ytjenfohogjomdaa", sum := "b38f38c37e973e77b62d97d71e3873e3c4666ede432dd0fe5e92e8f83199f5d2", func := "rosary/rosarylaw18.RatioHelps", spec := "ratioHelps", apart := false }
def RatioHelpsSaid : Prop := ratioHelpsRow.holds Try.pinned (OpenSpec.ofChange ratioHelpsSpec)

/-- ITS FALSE NEIGHBOUR: 'it returns false'. Refute it at one input. -/
def ratioHelpsWrong : ChangeSpec := { name := "ratioHelps", fn := fun _ => fun
  | [d1, d2, d3, d4, d5, d6, d7] => { results := [.lit (.bool false)], args := [d1, d2, d3, d4, d5, d6, d7] }
  | _ => none }
def RatioHelpsWrongFalsely : Prop := ratioHelpsRow.holds Try.pinned (OpenSpec.ofChange ratioHelpsWrong)

/-- 'rosarylaw18.RatioNever': WHATEVER THE INPUT: true; the input reads as it did. -/
def ratioNeverSpec : ChangeSpec := { name := "ratioNever", fn := fun _ => fun
  | [d1, d2, d3, d4, d5, d6, d7] => { results := [.lit (.bool true)], args := [d1, d2, d3, d4, d5, d6, d7] }
  | _ => none }
def ratioNeverRow : OpenClaim := { program := "ytjenfohogjomdaa", sum := "b38f38c37e973e77b62d97d71e3873e3c4666ede432dd0fe5e92e8f83199f5d2", func := "rosary/rosarylaw18.RatioNever", spec := "ratioNever", apart := false }
def RatioNeverSaid : Prop := ratioNeverRow.holds Try.pinned (OpenSpec.ofChange ratioNeverSpec)

/-- ITS FALSE NEIGHBOUR: 'it returns false'. Refute it at one input. -/
def ratioNeverWrong : ChangeSpec := { name := "ratioNever", fn := fun _ => fun
  | [d1, d2, d3, d4, d5, d6, d7] => { results := [.lit (.bool false)], args := [d1, d2, d3, d4, d5, d6, d7] }
  | _ => none }
def RatioNeverWrongFalsely : Prop := ratioNeverRow.holds Try.pinned (OpenSpec.ofChange ratioNeverWrong)

/- THE SECOND FORM. 'bulk': how many values and letters a reading holds, each counted each time it is reached (what is shared counts as often as it is met; a slice's spare places count too). A statement '..UptoSaid' is the law's where the arguments, and the package variables that the reading takes, are together of bulk at most 1048576: NARROWER than '..Said'. Prove '..Said' where nothing that the law and all that it calls make is longer than what came in: it says more and counts as full. Else prove '..UptoSaid'. A law counts once. -/
mutual
def uptoBulk {H : Type} : DataW H → Nat
  | .lit (.string bytes) => bytes.length + 1
  | .lit _ => 1
  | .nil => 1
  | .ptr d => uptoBulk d + 1
  | .slice elems spare => uptoBulkAll elems + uptoBulkAll spare + 1
  | .agg parts => uptoBulkAll parts + 1
  | .iface _ d => uptoBulk d + 1
  | .map entries => uptoBulkEntries entries + 1
  | .held _ => 1
def uptoBulkAll {H : Type} : List (DataW H) → Nat
  | [] => 0
  | d :: r => uptoBulk d + uptoBulkAll r
def uptoBulkEntries {H : Type} : List (Lit × DataW H) → Nat
  | [] => 0
  | x :: r => uptoBulkEntry x + uptoBulkEntries r
def uptoBulkEntry {H : Type} : Lit × DataW H → Nat
  | (.string bytes, d) => bytes.length + uptoBulk d + 1
  | (_, d) => uptoBulk d + 1
 end
def uptoSmall : (H : Type) → List (DataW H) → Bool := fun _ ds => decide (uptoBulkAll ds ≤ 1048576)
def OpenSpec.upto (s : _root_.Go.ChangeSpec) : _root_.Go.OpenSpec := { _root_.Go.OpenSpec.ofChange s with cond := some uptoSmall }

/-- 'rosarylaw18.RatioEven', WHERE WHAT IT READS IS OF BULK AT MOST 1048576: true; the input reads as it did. -/
def ratioEvenUptoRow : OpenClaim := { program := "ytjenfohogjomdaa", sum := "b38f38c37e973e77b62d97d71e3873e3c4666ede432dd0fe5e92e8f83199f5d2", func := "rosary/rosarylaw18.RatioEven", spec := "ratioEven", apart := false, narrowed := true }
def RatioEvenUptoSaid : Prop := ratioEvenUptoRow.holds Try.pinned (OpenSpec.upto ratioEvenSpec)

/-- 'rosarylaw18.RatioSums', WHERE WHAT IT READS IS OF BULK AT MOST 1048576: true; the input reads as it did. -/
def ratioSumsUptoRow : OpenClaim := { program := "ytjenfohogjomdaa", sum := "b38f38c37e973e77b62d97d71e3873e3c4666ede432dd0fe5e92e8f83199f5d2", func := "rosary/rosarylaw18.RatioSums", spec := "ratioSums", apart := false, narrowed := true }
def RatioSumsUptoSaid : Prop := ratioSumsUptoRow.holds Try.pinned (OpenSpec.upto ratioSumsSpec)

/-- 'rosarylaw18.RatioTells', WHERE WHAT IT READS IS OF BULK AT MOST 1048576: true; the input reads as it did. -/
def ratioTellsUptoRow : OpenClaim := { program := "ytjenfohogjomdaa", sum := "b38f38c37e973e77b62d97d71e3873e3c4666ede432dd0fe5e92e8f83199f5d2", func := "rosary/rosarylaw18.RatioTells", spec := "ratioTells", apart := false, narrowed := true }
def RatioTellsUptoSaid : Prop := ratioTellsUptoRow.holds Try.pinned (OpenSpec.upto ratioTellsSpec)

/-- 'rosarylaw18.RatioSquares', WHERE WHAT IT READS IS OF BULK AT MOST 1048576: true; the input reads as it did. -/
def ratioSquaresUptoRow : OpenClaim := { program := "ytjenfohogjomdaa", sum := "b38f38c37e973e77b62d97d71e3873e3c4666ede432dd0fe5e92e8f83199f5d2", func := "rosary/rosarylaw18.RatioSquares", spec := "ratioSquares", apart := false, narrowed := true }
def RatioSquaresUptoSaid : Prop := ratioSquaresUptoRow.holds Try.pinned (OpenSpec.upto ratioSquaresSpec)

/-- 'rosarylaw18.RatioPlans', WHERE WHAT IT READS IS OF BULK AT MOST 1048576: true; the input reads as it did. -/
def ratioPlansUptoRow : OpenClaim := { program := "ytjenfohogjomdaa", sum := "b38f38c37e973e77b62d97d71e3873e3c4666ede432dd0fe5e92e8f83199f5d2", func := "rosary/rosarylaw18.RatioPlans", spec := "ratioPlans", apart := false, narrowed := true }
def RatioPlansUptoSaid : Prop := ratioPlansUptoRow.holds Try.pinned (OpenSpec.upto ratioPlansSpec)

/-- 'rosarylaw18.RatioHelps', WHERE WHAT IT READS IS OF BULK AT MOST 1048576: true; the input reads as it did. -/
def ratioHelpsUptoRow : OpenClaim := { program := "ytjenfohogjomdaa", sum := "b38f38c37e973e77b62d97d71e3873e3c4666ede432dd0fe5e92e8f83199f5d2", func := "rosary/rosarylaw18.RatioHelps", spec := "ratioHelps", apart := false, narrowed := true }
def RatioHelpsUptoSaid : Prop := ratioHelpsUptoRow.holds Try.pinned (OpenSpec.upto ratioHelpsSpec)

/-- 'rosarylaw18.RatioNever', WHERE WHAT IT READS IS OF BULK AT MOST 1048576: true; the input reads as it did. -/
def ratioNeverUptoRow : OpenClaim := { program := "ytjenfohogjomdaa", sum := "b38f38c37e973e77b62d97d71e3873e3c4666ede432dd0fe5e92e8f83199f5d2", func := "rosary/rosarylaw18.RatioNever", spec := "ratioNever", apart := false, narrowed := true }
def RatioNeverUptoSaid : Prop := ratioNeverUptoRow.holds Try.pinned (OpenSpec.upto ratioNeverSpec)

end Rows
end Go.Proofs.Ytjenfohogjomdaa
