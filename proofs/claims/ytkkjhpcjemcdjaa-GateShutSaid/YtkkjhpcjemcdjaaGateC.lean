/- Gate: the first call that every law begins with. -/
import Derived.Test.YtkkjhpcjemcdjaaGateB
set_option maxRecDepth 100000
set_option linter.unusedVariables false
set_option linter.unusedSimpArgs false
namespace Go.Proofs.Ytkkjhpcjemcdjaa.Gt
open Go Go.Eng F

theorem alive_ran : ranTrue (callN fs noEx 60 7 [] []) = true := by kernel_rfl
def ex3 : FuncId → List AV → M AV
  | 7, [], h => some (.bool true, h)
  | _, _, _ => none
theorem ex3_ok : CfSound Try.prog ex3 := by
  refine flat_sound (call_sound fs noEx fsOk noEx_sound) ?_
  intro f vs h v h' hr
  unfold ex3 at hr
  split at hr
  · cases hr; exact ⟨rfl, rfl, rfl, ranTrue_call 60 alive_ran⟩
  · cases hr
/-- Two lists of known functions. -/
def ex4 : FuncId → List AV → M AV := fun f vs h => if f = 7 then ex3 f vs h else ex2 f vs h
theorem ex4_ok : CfSound Try.prog ex4 := by
  intro f vs h v h' hr
  unfold ex4 at hr
  split at hr
  · exact ex3_ok f vs h v h' hr
  · exact ex2_ok f vs h v h' hr
def fs4 := fsBut fs [7, 11, 12, 13, 14, 15]
theorem fs4_ok : FsOk Try.prog fs4 := fsBut_ok fsOk _
theorem e4 {f : FuncId} (hf : fs4 f = none) (vs : List AV) (h : H) : call fs4 ex4 f vs h = ex4 f vs h := call_ex fs4 ex4 hf _ _
end Go.Proofs.Ytkkjhpcjemcdjaa.Gt
