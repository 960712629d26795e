/- Link: what is run, and what is known. -/
import Derived.Test.YtmbkklobijflkaaF
import Derived.Test.YtmbkklobijflkaaEngW
set_option maxRecDepth 100000
set_option linter.unusedVariables false
set_option linter.unusedSimpArgs false
namespace Go.Proofs.Ytmbkklobijflkaa.Lk
open Go Go.Eng F

theorem alive_ran : ranTrue (callN fs noEx 60 10 [] []) = true := by kernel_rfl
def ex1 : FuncId → List AV → M AV
  | 10, [], h => some (.bool true, h)
  | _, _, _ => none
theorem ex1_ok : CfSound Try.prog ex1 := by
  refine flat_sound (call_sound fs noEx fsOk noEx_sound) ?_
  intro f vs h v h' hr
  unfold ex1 at hr
  split at hr
  · cases hr; exact ⟨rfl, rfl, rfl, ranTrue_call 60 alive_ran⟩
  · cases hr
def fs1 := fsBut fs [10]
theorem fs1_ok : FsOk Try.prog fs1 := fsBut_ok fsOk _
theorem e1_10 (vs : List AV) (h : H) : call fs1 ex1 10 vs h = ex1 10 vs h := call_ex fs1 ex1 rfl _ _
theorem i11 (vs : List AV) (h : H) : call fs1 ex1 11 vs h = runFn (call fs1 ex1) itw sf11 vs h := call_eq fs1 ex1 (f := 11) (sf := sf11) rfl _ _
theorem i12 (vs : List AV) (h : H) : call fs1 ex1 12 vs h = runFn (call fs1 ex1) itw sf12 vs h := call_eq fs1 ex1 (f := 12) (sf := sf12) rfl _ _
theorem i13 (vs : List AV) (h : H) : call fs1 ex1 13 vs h = runFn (call fs1 ex1) itw sf13 vs h := call_eq fs1 ex1 (f := 13) (sf := sf13) rfl _ _
theorem i14 (vs : List AV) (h : H) : call fs1 ex1 14 vs h = runFn (call fs1 ex1) itw sf14 vs h := call_eq fs1 ex1 (f := 14) (sf := sf14) rfl _ _
theorem i15 (vs : List AV) (h : H) : call fs1 ex1 15 vs h = runFn (call fs1 ex1) itw sf15 vs h := call_eq fs1 ex1 (f := 15) (sf := sf15) rfl _ _
theorem i16 (vs : List AV) (h : H) : call fs1 ex1 16 vs h = runFn (call fs1 ex1) itw sf16 vs h := call_eq fs1 ex1 (f := 16) (sf := sf16) rfl _ _
theorem i19 (vs : List AV) (h : H) : call fs1 ex1 19 vs h = runFn (call fs1 ex1) itw sf19 vs h := call_eq fs1 ex1 (f := 19) (sf := sf19) rfl _ _
theorem i25 (vs : List AV) (h : H) : call fs1 ex1 25 vs h = runFn (call fs1 ex1) itw sf25 vs h := call_eq fs1 ex1 (f := 25) (sf := sf25) rfl _ _
theorem i26 (vs : List AV) (h : H) : call fs1 ex1 26 vs h = runFn (call fs1 ex1) itw sf26 vs h := call_eq fs1 ex1 (f := 26) (sf := sf26) rfl _ _
theorem i27 (vs : List AV) (h : H) : call fs1 ex1 27 vs h = runFn (call fs1 ex1) itw sf27 vs h := call_eq fs1 ex1 (f := 27) (sf := sf27) rfl _ _
theorem i28 (vs : List AV) (h : H) : call fs1 ex1 28 vs h = runFn (call fs1 ex1) itw sf28 vs h := call_eq fs1 ex1 (f := 28) (sf := sf28) rfl _ _
theorem i29 (vs : List AV) (h : H) : call fs1 ex1 29 vs h = runFn (call fs1 ex1) itw sf29 vs h := call_eq fs1 ex1 (f := 29) (sf := sf29) rfl _ _
theorem i61 (vs : List AV) (h : H) : call fs1 ex1 61 vs h = runFn (call fs1 ex1) itw sf61 vs h := call_eq fs1 ex1 (f := 61) (sf := sf61) rfl _ _
theorem i62 (vs : List AV) (h : H) : call fs1 ex1 62 vs h = runFn (call fs1 ex1) itw sf62 vs h := call_eq fs1 ex1 (f := 62) (sf := sf62) rfl _ _
theorem slOf_cells {h : H} {es : Nat} {v : AV} {els : List (List AV)} (hs : SlOf h es v els) : v.cells = some [v] ∧ v.scalar = true := by
  rcases hs with ⟨rfl, _⟩ | ⟨b, c, rfl, _⟩ <;> exact ⟨rfl, rfl⟩
end Go.Proofs.Ytmbkklobijflkaa.Lk
