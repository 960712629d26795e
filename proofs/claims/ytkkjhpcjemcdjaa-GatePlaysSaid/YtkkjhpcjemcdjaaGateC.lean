/- Gate: what is known when only what is shut is looked at. -/
import Derived.Test.YtkkjhpcjemcdjaaGateB
set_option linter.unusedVariables false
namespace Go.Proofs.Ytkkjhpcjemcdjaa.Gt
open Go Go.Eng F
theorem e2 {f : FuncId} (hf : fs2 f = none) (vs : List AV) (h : H) : call fs2 ex2 f vs h = ex2 f vs h := call_ex fs2 ex2 hf _ _
end Go.Proofs.Ytkkjhpcjemcdjaa.Gt
