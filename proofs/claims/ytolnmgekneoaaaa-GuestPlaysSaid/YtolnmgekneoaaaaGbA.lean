/- Guest: what is run, and what is known, with a book beside. -/
import Derived.Test.YtolnmgekneoaaaaGuestA
import Derived.Test.YtolnmgekneoaaaaBkA
set_option maxRecDepth 100000
set_option linter.unusedVariables false
set_option linter.unusedSimpArgs false
namespace Go.Proofs.Ytolnmgekneoaaaa.Gb
open Go Go.Eng F Bk

noncomputable def ex3 : FuncId → List AV → M AV := fun f vs h => if [79].contains f then nameEx f vs h else Gu.exA f vs h
theorem ex3_ok : CfSound Try.prog ex3 := join_sound [79] nameEx_ok Gu.exA_ok
def fs3 := fsBut fs [10, 79]
theorem fs3_ok : FsOk Try.prog fs3 := fsBut_ok fsOk _
theorem e3_10 (h : H) : call fs3 ex3 10 [] h = some (.bool true, h) := (call_ex fs3 ex3 rfl _ _).trans rfl
theorem e3_79 (i k : Int) (h : H) : call fs3 ex3 79 [.int .i64 i, .int .i64 k] h = some (.str (nm i k), h) := (call_ex fs3 ex3 rfl _ _).trans rfl
end Go.Proofs.Ytolnmgekneoaaaa.Gb
namespace Go.Proofs.Ytolnmgekneoaaaa.Bk
open Go Go.Eng F
theorem nm_eq (i k : Int) (h : H) : call Gb.fs3 Gb.ex3 79 [.int .i64 i, .int .i64 k] h = some (.str (nm i k), h) := Gb.e3_79 i k h
end Go.Proofs.Ytolnmgekneoaaaa.Bk
