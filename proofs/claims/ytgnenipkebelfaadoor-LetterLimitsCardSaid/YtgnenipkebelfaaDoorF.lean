/- The functions of this seat's program, translated for the engine (printed by wip/eng/dump.lean). -/
import Derived.Test.YtgnenipkebelfaaDoorEngV
import Derived.Test.YtgnenipkebelfaaDoorProg
import Derived.KernelRfl
set_option maxRecDepth 1000000
set_option linter.unusedVariables false
namespace Go.Proofs.YtgnenipkebelfaaDoor.F
open Go Go.Eng

/-- rosary/rosarylaw7.LetterCuts -/
def sf3 : SFunc := ⟨2, 65, (.seq (.reg [⟨(some 2), .a .box, [.tmp 0], none⟩,
    ⟨(some 4), .p .move, [.lit (.bool false)], none⟩])
  (.seq (.seq (.reg [⟨(some 11), .r (.load (some 21)), [.tmp 2], none⟩,
    ⟨(some 12), .h (.call 10), [.tmp 11], none⟩,
    ⟨(some 13), .p .not, [.tmp 12], none⟩,
    ⟨(some 14), .p .move, [.tmp 13], none⟩,
    ⟨(some 15), .h (.call 11), [], some (14, false)⟩,
    ⟨(some 16), .p .not, [.tmp 15], some (14, false)⟩,
    ⟨(some 17), .p .pick, [.tmp 14, .lit (.bool true), .tmp 16], none⟩])
  (.cond (.tmp 17) (.seq (.reg [⟨(some 18), .h (.call 11), [], none⟩,
    ⟨(some 4), .p .move, [.tmp 18], none⟩])
  .ret)
  .skip))
  (.seq (.reg [⟨(some 20), .r (.load (some 21)), [.tmp 2], none⟩,
    ⟨(some 21), .h (.call 12), [.tmp 20], none⟩,
    ⟨(some 19), .p .move, [.tmp 21], none⟩,
    ⟨(some 22), .p (.extract 0), [.tmp 19], none⟩,
    ⟨(some 23), .p (.extract 1), [.tmp 19], none⟩,
    ⟨(some 5), .p .move, [.tmp 22], none⟩,
    ⟨(some 6), .p .move, [.tmp 23], none⟩])
  (.seq (.seq (.reg [⟨(some 24), .p .move, [.tmp 6], none⟩,
    ⟨(some 25), .p .not, [.tmp 24], none⟩,
    ⟨(some 26), .p .move, [.tmp 25], none⟩,
    ⟨(some 27), .p .move, [.tmp 5], some (26, false)⟩,
    ⟨(some 28), .p .lenStr, [.tmp 27], some (26, false)⟩,
    ⟨(some 29), .p (.bin .eql), [.tmp 28, .lit (.int .i64 0)], some (26, false)⟩,
    ⟨(some 30), .p .pick, [.tmp 26, .lit (.bool true), .tmp 29], none⟩])
  (.cond (.tmp 30) (.seq (.reg [⟨(some 31), .p .move, [.tmp 6], none⟩,
    ⟨(some 32), .p .not, [.tmp 31], none⟩,
    ⟨(some 33), .p .move, [.tmp 32], none⟩,
    ⟨(some 34), .p .move, [.tmp 5], some (33, true)⟩,
    ⟨(some 35), .p (.bin .eql), [.tmp 34, .lit (.str [])], some (33, true)⟩,
    ⟨(some 36), .p .pick, [.tmp 33, .tmp 35, .lit (.bool false)], none⟩,
    ⟨(some 4), .p .move, [.tmp 36], none⟩])
  .ret)
  .skip))
  (.seq (.reg [⟨(some 38), .p .move, [.tmp 5], none⟩,
    ⟨(some 39), .p .move, [.tmp 1], none⟩,
    ⟨(some 40), .p .move, [.tmp 5], none⟩,
    ⟨(some 41), .p .lenStr, [.tmp 40], none⟩,
    ⟨(some 42), .p (.bin .rem), [.tmp 39, .tmp 41], none⟩,
    ⟨(some 43), .p .move, [.tmp 5], none⟩,
    ⟨(some 44), .p .lenStr, [.tmp 43], none⟩,
    ⟨(some 45), .p (.bin .add), [.tmp 42, .tmp 44], none⟩,
    ⟨(some 46), .p .move, [.tmp 5], none⟩,
    ⟨(some 47), .p .lenStr, [.tmp 46], none⟩,
    ⟨(some 48), .p (.bin .rem), [.tmp 45, .tmp 47], none⟩,
    ⟨(some 49), .p (.sliceStr false true), [.tmp 38, .tmp 48], none⟩,
    ⟨(some 50), .h (.call 13), [.tmp 49], none⟩,
    ⟨(some 37), .p .move, [.tmp 50], none⟩,
    ⟨(some 51), .p (.extract 0), [.tmp 37], none⟩,
    ⟨(some 52), .p (.extract 1), [.tmp 37], none⟩,
    ⟨(some 7), .a (.alloc [(.int .i64 0), (.int .i64 0), (.int .i64 0), (.int .i64 0), (.int .i64 0), (.str []), (.str []), (.str []), (.int .i64 0), (.int .i64 0), (.str []), .nilslice, (.bool false), (.str []), (.int .i64 0), (.int .u64 0), (.int .u64 0), (.int .i64 0), .nilslice, (.int .i64 0), (.int .i64 0)]), [], none⟩,
    ⟨none, .h (.store 21), [.tmp 7, .tmp 51], none⟩,
    ⟨(some 8), .p .move, [.tmp 52], none⟩])
  (.seq (.reg [⟨(some 54), .p .move, [.tmp 5], none⟩,
    ⟨(some 55), .p (.bin .add), [.tmp 54, .lit (.str [120])], none⟩,
    ⟨(some 56), .h (.call 13), [.tmp 55], none⟩,
    ⟨(some 53), .p .move, [.tmp 56], none⟩,
    ⟨(some 57), .p (.extract 0), [.tmp 53], none⟩,
    ⟨(some 58), .p (.extract 1), [.tmp 53], none⟩,
    ⟨(some 9), .a (.alloc [(.int .i64 0), (.int .i64 0), (.int .i64 0), (.int .i64 0), (.int .i64 0), (.str []), (.str []), (.str []), (.int .i64 0), (.int .i64 0), (.str []), .nilslice, (.bool false), (.str []), (.int .i64 0), (.int .u64 0), (.int .u64 0), (.int .i64 0), .nilslice, (.int .i64 0), (.int .i64 0)]), [], none⟩,
    ⟨none, .h (.store 21), [.tmp 9, .tmp 57], none⟩,
    ⟨(some 10), .p .move, [.tmp 58], none⟩])
  (.seq (.reg [⟨(some 59), .p .move, [.tmp 8], none⟩,
    ⟨(some 60), .p .not, [.tmp 59], none⟩,
    ⟨(some 61), .p .move, [.tmp 60], none⟩,
    ⟨(some 62), .p .move, [.tmp 10], some (61, true)⟩,
    ⟨(some 63), .p .not, [.tmp 62], some (61, true)⟩,
    ⟨(some 64), .p .pick, [.tmp 61, .tmp 63, .lit (.bool false)], none⟩,
    ⟨(some 4), .p .move, [.tmp 64], none⟩])
  .ret))))))), [.tmp 4]⟩
theorem c3 : cFunc Go.Proofs.Tryd.prog false 2 Go.Proofs.Tryd.f3 = some sf3 := by kernel_rfl
def ss3 : List Sh := [(.st [(.int .i64), (.int .i64), (.int .i64), (.int .i64), (.st [(.int .i64), .str, .str, .str, (.int .i64)]), (.st [(.int .i64), .str, (.sl 32 (.st [.str, .str])), .bool, .str, (.int .i64)]), (.st [(.int .u64), (.int .u64)]), (.int .i64), (.sl 32 (.st [.str, .str])), (.int .i64), (.int .i64)]), (.int .i64)]
theorem cs3 : shsOf Go.Proofs.Tryd.prog 12 Go.Proofs.Tryd.f3.params.toList = some ss3 := by kernel_rfl

/-- rosary/rosarylaw7.LetterTwo -/
def sf4 : SFunc := ⟨2, 57, (.seq (.reg [⟨(some 2), .a .box, [.tmp 0], none⟩,
    ⟨(some 3), .a .box, [.tmp 1], none⟩,
    ⟨(some 4), .p .move, [.lit (.bool false)], none⟩])
  (.seq (.seq (.reg [⟨(some 9), .r (.load (some 21)), [.tmp 2], none⟩,
    ⟨(some 10), .h (.call 10), [.tmp 9], none⟩,
    ⟨(some 11), .p .not, [.tmp 10], none⟩,
    ⟨(some 12), .p .move, [.tmp 11], none⟩,
    ⟨(some 13), .r (.load (some 21)), [.tmp 3], some (12, false)⟩,
    ⟨(some 14), .h (.call 10), [.tmp 13], some (12, false)⟩,
    ⟨(some 15), .p .not, [.tmp 14], some (12, false)⟩,
    ⟨(some 16), .p .pick, [.tmp 12, .lit (.bool true), .tmp 15], none⟩,
    ⟨(some 17), .p .move, [.tmp 16], none⟩,
    ⟨(some 18), .h (.call 11), [], some (17, false)⟩,
    ⟨(some 19), .p .not, [.tmp 18], some (17, false)⟩,
    ⟨(some 20), .p .pick, [.tmp 17, .lit (.bool true), .tmp 19], none⟩])
  (.cond (.tmp 20) (.seq (.reg [⟨(some 21), .h (.call 11), [], none⟩,
    ⟨(some 4), .p .move, [.tmp 21], none⟩])
  .ret)
  .skip))
  (.seq (.reg [⟨(some 23), .r (.load (some 21)), [.tmp 2], none⟩,
    ⟨(some 24), .h (.call 12), [.tmp 23], none⟩,
    ⟨(some 22), .p .move, [.tmp 24], none⟩,
    ⟨(some 25), .p (.extract 0), [.tmp 22], none⟩,
    ⟨(some 26), .p (.extract 1), [.tmp 22], none⟩,
    ⟨(some 5), .p .move, [.tmp 25], none⟩,
    ⟨(some 6), .p .move, [.tmp 26], none⟩])
  (.seq (.reg [⟨(some 28), .r (.load (some 21)), [.tmp 3], none⟩,
    ⟨(some 29), .h (.call 12), [.tmp 28], none⟩,
    ⟨(some 27), .p .move, [.tmp 29], none⟩,
    ⟨(some 30), .p (.extract 0), [.tmp 27], none⟩,
    ⟨(some 31), .p (.extract 1), [.tmp 27], none⟩,
    ⟨(some 7), .p .move, [.tmp 30], none⟩,
    ⟨(some 8), .p .move, [.tmp 31], none⟩])
  (.seq (.seq (.reg [⟨(some 32), .p .move, [.tmp 6], none⟩,
    ⟨(some 33), .p .not, [.tmp 32], none⟩,
    ⟨(some 34), .p .move, [.tmp 33], none⟩,
    ⟨(some 35), .p .move, [.tmp 8], some (34, false)⟩,
    ⟨(some 36), .p .not, [.tmp 35], some (34, false)⟩,
    ⟨(some 37), .p .pick, [.tmp 34, .lit (.bool true), .tmp 36], none⟩])
  (.cond (.tmp 37) (.seq (.reg [⟨(some 38), .p .move, [.tmp 6], none⟩,
    ⟨(some 39), .p .move, [.tmp 38], none⟩,
    ⟨(some 40), .p .move, [.tmp 5], some (39, false)⟩,
    ⟨(some 41), .p (.bin .eql), [.tmp 40, .lit (.str [])], some (39, false)⟩,
    ⟨(some 42), .p .pick, [.tmp 39, .lit (.bool true), .tmp 41], none⟩,
    ⟨(some 43), .p .move, [.tmp 42], none⟩,
    ⟨(some 44), .p .move, [.tmp 8], some (43, true)⟩,
    ⟨(some 45), .p .move, [.tmp 44], some (43, true)⟩,
    ⟨(some 46), .p .move, [.tmp 7], some (45, false)⟩,
    ⟨(some 47), .p (.bin .eql), [.tmp 46, .lit (.str [])], some (45, false)⟩,
    ⟨(some 48), .p .pick, [.tmp 45, .lit (.bool true), .tmp 47], some (43, true)⟩,
    ⟨(some 49), .p .pick, [.tmp 43, .tmp 48, .lit (.bool false)], none⟩,
    ⟨(some 4), .p .move, [.tmp 49], none⟩])
  .ret)
  .skip))
  (.seq (.reg [⟨(some 50), .p .move, [.tmp 5], none⟩,
    ⟨(some 51), .p .move, [.tmp 7], none⟩,
    ⟨(some 52), .p (.bin .eql), [.tmp 50, .tmp 51], none⟩,
    ⟨(some 53), .r (.load (some 21)), [.tmp 2], none⟩,
    ⟨(some 54), .r (.load (some 21)), [.tmp 3], none⟩,
    ⟨(some 55), .h (.call 14), [.tmp 53, .tmp 54], none⟩,
    ⟨(some 56), .p (.eq false .bool), [.tmp 52, .tmp 55], none⟩,
    ⟨(some 4), .p .move, [.tmp 56], none⟩])
  .ret)))))), [.tmp 4]⟩
theorem c4 : cFunc Go.Proofs.Tryd.prog false 2 Go.Proofs.Tryd.f4 = some sf4 := by kernel_rfl
def ss4 : List Sh := [(.st [(.int .i64), (.int .i64), (.int .i64), (.int .i64), (.st [(.int .i64), .str, .str, .str, (.int .i64)]), (.st [(.int .i64), .str, (.sl 32 (.st [.str, .str])), .bool, .str, (.int .i64)]), (.st [(.int .u64), (.int .u64)]), (.int .i64), (.sl 32 (.st [.str, .str])), (.int .i64), (.int .i64)]), (.st [(.int .i64), (.int .i64), (.int .i64), (.int .i64), (.st [(.int .i64), .str, .str, .str, (.int .i64)]), (.st [(.int .i64), .str, (.sl 32 (.st [.str, .str])), .bool, .str, (.int .i64)]), (.st [(.int .u64), (.int .u64)]), (.int .i64), (.sl 32 (.st [.str, .str])), (.int .i64), (.int .i64)])]
theorem cs4 : shsOf Go.Proofs.Tryd.prog 12 Go.Proofs.Tryd.f4.params.toList = some ss4 := by kernel_rfl

/-- rosary/rosarylaw7.LetterKinds -/
def sf5 : SFunc := ⟨2, 42, (.seq (.reg [⟨(some 4), .p .move, [.lit (.bool false)], none⟩])
  (.seq (.seq (.reg [⟨(some 6), .h (.call 11), [], none⟩,
    ⟨(some 7), .p .not, [.tmp 6], none⟩])
  (.cond (.tmp 7) (.seq (.reg [⟨(some 4), .p .move, [.lit (.bool false)], none⟩])
  .ret)
  .skip))
  (.seq (.reg [⟨(some 8), .p .move, [.tmp 0], none⟩,
    ⟨(some 9), .p (.bin .geq), [.tmp 8, .lit (.int .i64 1)], none⟩,
    ⟨(some 10), .p .move, [.tmp 9], none⟩,
    ⟨(some 11), .p .move, [.tmp 0], some (10, true)⟩,
    ⟨(some 12), .p (.bin .leq), [.tmp 11, .lit (.int .i64 16)], some (10, true)⟩,
    ⟨(some 13), .p .pick, [.tmp 10, .tmp 12, .lit (.bool false)], none⟩,
    ⟨(some 5), .p .move, [.tmp 13], none⟩])
  (.seq (.reg [⟨(some 14), .p .move, [.tmp 0], none⟩,
    ⟨(some 15), .h (.call 15), [.tmp 14], none⟩,
    ⟨(some 16), .p (.bin .neq), [.tmp 15, .lit (.str [])], none⟩,
    ⟨(some 17), .p .move, [.tmp 5], none⟩,
    ⟨(some 18), .p (.eq false .bool), [.tmp 16, .tmp 17], none⟩,
    ⟨(some 19), .p .move, [.tmp 18], none⟩,
    ⟨(some 20), .p .move, [.tmp 0], some (19, true)⟩,
    ⟨(some 21), .p (.build [(.int .i64 0), (.int .i64 0), (.int .i64 0), (.int .i64 0), (.int .i64 0), (.str []), (.str []), (.str []), (.int .i64 0), (.int .i64 0), (.str []), .nilslice, (.bool false), (.str []), (.int .i64 0), (.int .u64 0), (.int .u64 0), (.int .i64 0), .nilslice, (.int .i64 0), (.int .i64 0)] [(0, 1)]), [.tmp 20], some (19, true)⟩,
    ⟨(some 22), .h (.call 16), [.tmp 21], some (19, true)⟩,
    ⟨(some 23), .p .move, [.tmp 5], some (19, true)⟩,
    ⟨(some 24), .p (.eq false .bool), [.tmp 22, .tmp 23], some (19, true)⟩,
    ⟨(some 25), .p .pick, [.tmp 19, .tmp 24, .lit (.bool false)], none⟩,
    ⟨(some 26), .p .move, [.tmp 25], none⟩,
    ⟨(some 27), .p .move, [.tmp 5], some (26, true)⟩,
    ⟨(some 28), .p .not, [.tmp 27], some (26, true)⟩,
    ⟨(some 29), .p .move, [.tmp 28], some (26, true)⟩,
    ⟨(some 30), .p .move, [.tmp 0], some (29, false)⟩,
    ⟨(some 31), .p .move, [.tmp 1], some (29, false)⟩,
    ⟨(some 32), .p (.bin .eql), [.tmp 30, .tmp 31], some (29, false)⟩,
    ⟨(some 33), .p .pick, [.tmp 29, .lit (.bool true), .tmp 32], some (26, true)⟩,
    ⟨(some 34), .p .move, [.tmp 33], some (26, true)⟩,
    ⟨(some 35), .p .move, [.tmp 0], some (34, false)⟩,
    ⟨(some 36), .h (.call 15), [.tmp 35], some (34, false)⟩,
    ⟨(some 37), .p .move, [.tmp 1], some (34, false)⟩,
    ⟨(some 38), .h (.call 15), [.tmp 37], some (34, false)⟩,
    ⟨(some 39), .p (.bin .neq), [.tmp 36, .tmp 38], some (34, false)⟩,
    ⟨(some 40), .p .pick, [.tmp 34, .lit (.bool true), .tmp 39], some (26, true)⟩,
    ⟨(some 41), .p .pick, [.tmp 26, .tmp 40, .lit (.bool false)], none⟩,
    ⟨(some 4), .p .move, [.tmp 41], none⟩])
  .ret)))), [.tmp 4]⟩
theorem c5 : cFunc Go.Proofs.Tryd.prog false 2 Go.Proofs.Tryd.f5 = some sf5 := by kernel_rfl
def ss5 : List Sh := [(.int .i64), (.int .i64)]
theorem cs5 : shsOf Go.Proofs.Tryd.prog 12 Go.Proofs.Tryd.f5.params.toList = some ss5 := by kernel_rfl

/-- rosary/rosarylaw7.LetterLimits -/
def sf6 : SFunc := ⟨1, 62, (.seq (.reg [⟨(some 2), .p .move, [.lit (.bool false)], none⟩])
  (.seq (.seq (.reg [⟨(some 10), .p .move, [.tmp 0], none⟩,
    ⟨(some 11), .p (.bin .lss), [.tmp 10, .lit (.int .i64 0)], none⟩,
    ⟨(some 12), .p .move, [.tmp 11], none⟩,
    ⟨(some 13), .p .move, [.tmp 0], some (12, false)⟩,
    ⟨(some 14), .p (.bin .gtr), [.tmp 13, .lit (.int .i64 400)], some (12, false)⟩,
    ⟨(some 15), .p .pick, [.tmp 12, .lit (.bool true), .tmp 14], none⟩,
    ⟨(some 16), .p .move, [.tmp 15], none⟩,
    ⟨(some 17), .h (.call 11), [], some (16, false)⟩,
    ⟨(some 18), .p .not, [.tmp 17], some (16, false)⟩,
    ⟨(some 19), .p .pick, [.tmp 16, .lit (.bool true), .tmp 18], none⟩])
  (.cond (.tmp 19) (.seq (.reg [⟨(some 20), .h (.call 11), [], none⟩,
    ⟨(some 2), .p .move, [.tmp 20], none⟩])
  .ret)
  .skip))
  (.seq (.reg [⟨(some 21), .p (.build [(.int .i64 0), (.int .i64 0), (.int .i64 0), (.int .i64 0), (.int .i64 0), (.str []), (.str []), (.str []), (.int .i64 0), (.int .i64 0), (.str []), .nilslice, (.bool false), (.str []), (.int .i64 0), (.int .u64 0), (.int .u64 0), (.int .i64 0), .nilslice, (.int .i64 0), (.int .i64 0)] [(0, 1)]), [.lit (.int .i64 1)], none⟩,
    ⟨(some 3), .a (.alloc [(.int .i64 0), (.int .i64 0), (.int .i64 0), (.int .i64 0), (.int .i64 0), (.str []), (.str []), (.str []), (.int .i64 0), (.int .i64 0), (.str []), .nilslice, (.bool false), (.str []), (.int .i64 0), (.int .u64 0), (.int .u64 0), (.int .i64 0), .nilslice, (.int .i64 0), (.int .i64 0)]), [], none⟩,
    ⟨none, .h (.store 21), [.tmp 3, .tmp 21], none⟩])
  (.seq (.reg [⟨(some 22), .p .move, [.tmp 0], none⟩,
    ⟨(some 23), .a (.makeSlice [(.int .u8 0)]), [.tmp 22, .tmp 22], none⟩,
    ⟨(some 24), .r .toStr, [.tmp 23], none⟩,
    ⟨(some 4), .a (.alloc [(.str [])]), [], none⟩,
    ⟨none, .h (.store 1), [.tmp 4, .tmp 24], none⟩])
  (.seq (.seq (.reg [⟨(some 25), .p (.mkfn 17), [.tmp 4], none⟩,
    ⟨(some 26), .p (.mkfn 18), [.tmp 4], none⟩,
    ⟨(some 27), .p (.mkfn 19), [.tmp 4], none⟩,
    ⟨(some 28), .a (.buildSlice 1 3 [.nilfunc] [0, 1, 2]), [.tmp 25, .tmp 26, .tmp 27], none⟩,
    ⟨(some 29), .p .lenSl, [.tmp 28], none⟩,
    ⟨(some 30), .p .move, [.lit (.int .i64 0)], none⟩])
  (.block 0 (.loop [0, 3, 28, 29, 30] (.seq (.reg [⟨(some 31), .p (.bin .lss), [.tmp 30, .tmp 29], none⟩])
  (.seq (.cond (.tmp 31) .skip
  (.exit 0))
  (.seq (.block 1 (.seq (.reg [⟨(some 32), .p (.indexAddr 1), [.tmp 28, .tmp 30], none⟩,
    ⟨(some 33), .r (.load none), [.tmp 32], none⟩,
    ⟨(some 6), .p .move, [.tmp 33], none⟩])
  (.seq (.reg [⟨(some 34), .r (.load (some 21)), [.tmp 3], none⟩,
    ⟨(some 7), .a (.alloc [(.int .i64 0), (.int .i64 0), (.int .i64 0), (.int .i64 0), (.int .i64 0), (.str []), (.str []), (.str []), (.int .i64 0), (.int .i64 0), (.str []), .nilslice, (.bool false), (.str []), (.int .i64 0), (.int .u64 0), (.int .u64 0), (.int .i64 0), .nilslice, (.int .i64 0), (.int .i64 0)]), [], none⟩,
    ⟨none, .h (.store 21), [.tmp 7, .tmp 34], none⟩])
  (.seq (.reg [⟨(some 35), .p .move, [.tmp 6], none⟩,
    ⟨(some 36), .h .callV, [.tmp 35, .tmp 7], none⟩])
  (.seq (.reg [⟨(some 37), .r (.load (some 21)), [.tmp 7], none⟩,
    ⟨(some 38), .h (.call 16), [.tmp 37], none⟩,
    ⟨(some 39), .p .move, [.tmp 0], none⟩,
    ⟨(some 40), .p (.bin .leq), [.tmp 39, .lit (.int .i64 255)], none⟩,
    ⟨(some 41), .p (.eq true .bool), [.tmp 38, .tmp 40], none⟩])
  (.cond (.tmp 41) (.seq (.reg [⟨(some 2), .p .move, [.lit (.bool false)], none⟩])
  .ret)
  .skip))))))
  (.reg [⟨(some 42), .p (.bin .add), [.tmp 30, .lit (.int .i64 1)], none⟩,
    ⟨(some 30), .p .move, [.tmp 42], none⟩])))))))
  (.seq (.reg [⟨(some 43), .r (.load (some 21)), [.tmp 3], none⟩,
    ⟨(some 8), .a (.alloc [(.int .i64 0), (.int .i64 0), (.int .i64 0), (.int .i64 0), (.int .i64 0), (.str []), (.str []), (.str []), (.int .i64 0), (.int .i64 0), (.str []), .nilslice, (.bool false), (.str []), (.int .i64 0), (.int .u64 0), (.int .u64 0), (.int .i64 0), .nilslice, (.int .i64 0), (.int .i64 0)]), [], none⟩,
    ⟨none, .h (.store 21), [.tmp 8, .tmp 43], none⟩])
  (.seq (.reg [⟨(some 44), .p .move, [.tmp 0], none⟩,
    ⟨(some 45), .a (.makeSlice [(.str []), (.str [])]), [.tmp 44, .tmp 44], none⟩,
    ⟨(some 46), .p (.fieldAddr 18), [.tmp 8], none⟩,
    ⟨none, .h (.store 1), [.tmp 46, .tmp 45], none⟩])
  (.seq (.reg [⟨(some 47), .r (.load (some 21)), [.tmp 3], none⟩,
    ⟨(some 9), .a (.alloc [(.int .i64 0), (.int .i64 0), (.int .i64 0), (.int .i64 0), (.int .i64 0), (.str []), (.str []), (.str []), (.int .i64 0), (.int .i64 0), (.str []), .nilslice, (.bool false), (.str []), (.int .i64 0), (.int .u64 0), (.int .u64 0), (.int .i64 0), .nilslice, (.int .i64 0), (.int .i64 0)]), [], none⟩,
    ⟨none, .h (.store 21), [.tmp 9, .tmp 47], none⟩])
  (.seq (.reg [⟨(some 48), .p .move, [.tmp 0], none⟩,
    ⟨(some 49), .p (.fieldAddr 2), [.tmp 9], none⟩,
    ⟨none, .h (.store 1), [.tmp 49, .tmp 48], none⟩])
  (.seq (.reg [⟨(some 50), .r (.load (some 21)), [.tmp 8], none⟩,
    ⟨(some 51), .h (.call 16), [.tmp 50], none⟩,
    ⟨(some 52), .p .move, [.tmp 0], none⟩,
    ⟨(some 53), .p (.bin .leq), [.tmp 52, .lit (.int .i64 40)], none⟩,
    ⟨(some 54), .p (.eq false .bool), [.tmp 51, .tmp 53], none⟩,
    ⟨(some 55), .p .move, [.tmp 54], none⟩,
    ⟨(some 56), .r (.load (some 21)), [.tmp 9], some (55, true)⟩,
    ⟨(some 57), .h (.call 16), [.tmp 56], some (55, true)⟩,
    ⟨(some 58), .p .move, [.tmp 0], some (55, true)⟩,
    ⟨(some 59), .p (.bin .leq), [.tmp 58, .lit (.int .i64 255)], some (55, true)⟩,
    ⟨(some 60), .p (.eq false .bool), [.tmp 57, .tmp 59], some (55, true)⟩,
    ⟨(some 61), .p .pick, [.tmp 55, .tmp 60, .lit (.bool false)], none⟩,
    ⟨(some 2), .p .move, [.tmp 61], none⟩])
  .ret)))))))))), [.tmp 2]⟩
theorem c6 : cFunc Go.Proofs.Tryd.prog false 1 Go.Proofs.Tryd.f6 = some sf6 := by kernel_rfl
def ss6 : List Sh := [(.int .i64)]
theorem cs6 : shsOf Go.Proofs.Tryd.prog 12 Go.Proofs.Tryd.f6.params.toList = some ss6 := by kernel_rfl

/-- rosary/rosarylaw7.PacketAcks -/
def sf7 : SFunc := ⟨1, 52, (.seq (.reg [⟨(some 1), .a .box, [.tmp 0], none⟩,
    ⟨(some 2), .p .move, [.lit (.bool false)], none⟩])
  (.seq (.seq (.reg [⟨(some 7), .p (.fieldAddr 4), [.tmp 1], none⟩,
    ⟨(some 8), .r (.load (some 21)), [.tmp 7], none⟩,
    ⟨(some 9), .h (.call 10), [.tmp 8], none⟩,
    ⟨(some 10), .p .not, [.tmp 9], none⟩,
    ⟨(some 11), .p .move, [.tmp 10], none⟩,
    ⟨(some 12), .h (.call 11), [], some (11, false)⟩,
    ⟨(some 13), .p .not, [.tmp 12], some (11, false)⟩,
    ⟨(some 14), .p .pick, [.tmp 11, .lit (.bool true), .tmp 13], none⟩])
  (.cond (.tmp 14) (.seq (.reg [⟨(some 15), .h (.call 11), [], none⟩,
    ⟨(some 2), .p .move, [.tmp 15], none⟩])
  .ret)
  .skip))
  (.seq (.reg [⟨(some 17), .r (.load (some 25)), [.tmp 1], none⟩,
    ⟨(some 18), .h (.call 20), [.tmp 17], none⟩,
    ⟨(some 16), .p .move, [.tmp 18], none⟩,
    ⟨(some 19), .p (.extract 0), [.tmp 16], none⟩,
    ⟨(some 20), .p (.extract 1), [.tmp 16], none⟩,
    ⟨(some 3), .p .move, [.tmp 19], none⟩,
    ⟨(some 4), .p .move, [.tmp 20], none⟩])
  (.seq (.seq (.reg [⟨(some 21), .p .move, [.tmp 4], none⟩,
    ⟨(some 22), .p .not, [.tmp 21], none⟩])
  (.cond (.tmp 22) (.seq (.reg [⟨(some 23), .p .move, [.tmp 3], none⟩,
    ⟨(some 24), .p (.bin .eql), [.tmp 23, .lit (.str [])], none⟩,
    ⟨(some 2), .p .move, [.tmp 24], none⟩])
  .ret)
  .skip))
  (.seq (.reg [⟨(some 26), .p (.fieldAddr 4), [.tmp 1], none⟩,
    ⟨(some 27), .r (.load (some 21)), [.tmp 26], none⟩,
    ⟨(some 28), .h (.call 12), [.tmp 27], none⟩,
    ⟨(some 25), .p .move, [.tmp 28], none⟩,
    ⟨(some 29), .p (.extract 0), [.tmp 25], none⟩,
    ⟨(some 30), .p (.extract 1), [.tmp 25], none⟩,
    ⟨(some 5), .p .move, [.tmp 29], none⟩,
    ⟨(some 6), .p .move, [.tmp 30], none⟩])
  (.seq (.seq (.reg [⟨(some 31), .p (.fieldAddr 2), [.tmp 1], none⟩,
    ⟨(some 32), .r (.load none), [.tmp 31], none⟩,
    ⟨(some 33), .p (.bin .eql), [.tmp 32, .lit (.int .i64 0)], none⟩])
  (.cond (.tmp 33) (.seq (.reg [⟨(some 34), .p .move, [.tmp 3], none⟩,
    ⟨(some 35), .p .lenStr, [.tmp 34], none⟩,
    ⟨(some 36), .p (.bin .eql), [.tmp 35, .lit (.int .i64 8)], none⟩,
    ⟨(some 2), .p .move, [.tmp 36], none⟩])
  .ret)
  .skip))
  (.seq (.reg [⟨(some 37), .p .move, [.tmp 6], none⟩,
    ⟨(some 38), .p .move, [.tmp 37], none⟩,
    ⟨(some 39), .p .move, [.tmp 3], some (38, true)⟩,
    ⟨(some 40), .p .lenStr, [.tmp 39], some (38, true)⟩,
    ⟨(some 41), .p .move, [.tmp 5], some (38, true)⟩,
    ⟨(some 42), .p .lenStr, [.tmp 41], some (38, true)⟩,
    ⟨(some 43), .p (.bin .add), [.lit (.int .i64 8), .tmp 42], some (38, true)⟩,
    ⟨(some 44), .p (.bin .eql), [.tmp 40, .tmp 43], some (38, true)⟩,
    ⟨(some 45), .p .pick, [.tmp 38, .tmp 44, .lit (.bool false)], none⟩,
    ⟨(some 46), .p .move, [.tmp 45], none⟩,
    ⟨(some 47), .p .move, [.tmp 3], some (46, true)⟩,
    ⟨(some 48), .p (.sliceStr true false), [.tmp 47, .lit (.int .i64 8)], some (46, true)⟩,
    ⟨(some 49), .p .move, [.tmp 5], some (46, true)⟩,
    ⟨(some 50), .p (.bin .eql), [.tmp 48, .tmp 49], some (46, true)⟩,
    ⟨(some 51), .p .pick, [.tmp 46, .tmp 50, .lit (.bool false)], none⟩,
    ⟨(some 2), .p .move, [.tmp 51], none⟩])
  .ret))))))), [.tmp 2]⟩
theorem c7 : cFunc Go.Proofs.Tryd.prog false 1 Go.Proofs.Tryd.f7 = some sf7 := by kernel_rfl
def ss7 : List Sh := [(.st [(.int .i64), (.int .i64), (.int .i64), (.int .i64), (.st [(.int .i64), (.int .i64), (.int .i64), (.int .i64), (.st [(.int .i64), .str, .str, .str, (.int .i64)]), (.st [(.int .i64), .str, (.sl 32 (.st [.str, .str])), .bool, .str, (.int .i64)]), (.st [(.int .u64), (.int .u64)]), (.int .i64), (.sl 32 (.st [.str, .str])), (.int .i64), (.int .i64)])])]
theorem cs7 : shsOf Go.Proofs.Tryd.prog 12 Go.Proofs.Tryd.f7.params.toList = some ss7 := by kernel_rfl

/-- rosary/rosarylaw7.PacketTells -/
def sf8 : SFunc := ⟨2, 93, (.seq (.reg [⟨(some 2), .a .box, [.tmp 0], none⟩,
    ⟨(some 4), .p .move, [.lit (.bool false)], none⟩])
  (.seq (.seq (.reg [⟨(some 15), .p (.fieldAddr 4), [.tmp 2], none⟩,
    ⟨(some 16), .r (.load (some 21)), [.tmp 15], none⟩,
    ⟨(some 17), .h (.call 10), [.tmp 16], none⟩,
    ⟨(some 18), .p .not, [.tmp 17], none⟩,
    ⟨(some 19), .p .move, [.tmp 18], none⟩,
    ⟨(some 20), .p .move, [.tmp 1], some (19, false)⟩,
    ⟨(some 21), .p .lenStr, [.tmp 20], some (19, false)⟩,
    ⟨(some 22), .p (.bin .gtr), [.tmp 21, .lit (.int .i64 3000)], some (19, false)⟩,
    ⟨(some 23), .p .pick, [.tmp 19, .lit (.bool true), .tmp 22], none⟩,
    ⟨(some 24), .p .move, [.tmp 23], none⟩,
    ⟨(some 25), .h (.call 11), [], some (24, false)⟩,
    ⟨(some 26), .p .not, [.tmp 25], some (24, false)⟩,
    ⟨(some 27), .p .pick, [.tmp 24, .lit (.bool true), .tmp 26], none⟩])
  (.cond (.tmp 27) (.seq (.reg [⟨(some 28), .h (.call 11), [], none⟩,
    ⟨(some 4), .p .move, [.tmp 28], none⟩])
  .ret)
  .skip))
  (.seq (.reg [⟨(some 30), .r (.load (some 25)), [.tmp 2], none⟩,
    ⟨(some 31), .h (.call 20), [.tmp 30], none⟩,
    ⟨(some 29), .p .move, [.tmp 31], none⟩,
    ⟨(some 32), .p (.extract 0), [.tmp 29], none⟩,
    ⟨(some 33), .p (.extract 1), [.tmp 29], none⟩,
    ⟨(some 5), .p .move, [.tmp 32], none⟩,
    ⟨(some 6), .p .move, [.tmp 33], none⟩])
  (.seq (.reg [⟨(some 35), .r (.load (some 25)), [.tmp 2], none⟩,
    ⟨(some 36), .h (.call 21), [.tmp 35], none⟩,
    ⟨(some 34), .p .move, [.tmp 36], none⟩,
    ⟨(some 37), .p (.extract 0), [.tmp 34], none⟩,
    ⟨(some 38), .p (.extract 1), [.tmp 34], none⟩,
    ⟨(some 7), .p .move, [.tmp 37], none⟩,
    ⟨(some 8), .p .move, [.tmp 38], none⟩])
  (.seq (.seq (.reg [⟨(some 39), .p .move, [.tmp 6], none⟩,
    ⟨(some 40), .p .move, [.tmp 8], none⟩,
    ⟨(some 41), .p (.eq true .bool), [.tmp 39, .tmp 40], none⟩,
    ⟨(some 42), .p .move, [.tmp 41], none⟩,
    ⟨(some 43), .p .move, [.tmp 5], some (42, false)⟩,
    ⟨(some 44), .p .move, [.tmp 7], some (42, false)⟩,
    ⟨(some 45), .p (.bin .neq), [.tmp 43, .tmp 44], some (42, false)⟩,
    ⟨(some 46), .p .pick, [.tmp 42, .lit (.bool true), .tmp 45], none⟩])
  (.cond (.tmp 46) (.seq (.reg [⟨(some 4), .p .move, [.lit (.bool false)], none⟩])
  .ret)
  .skip))
  (.seq (.seq (.reg [⟨(some 47), .p .move, [.tmp 5], none⟩,
    ⟨(some 48), .p .move, [.tmp 1], none⟩,
    ⟨(some 49), .a (.buildSlice 1 2 [(.str [])] [0, 1]), [.tmp 47, .tmp 48], none⟩,
    ⟨(some 50), .p .lenSl, [.tmp 49], none⟩,
    ⟨(some 51), .p .move, [.lit (.int .i64 0)], none⟩])
  (.block 0 (.loop [2, 5, 6, 49, 50, 51] (.seq (.reg [⟨(some 52), .p (.bin .lss), [.tmp 51, .tmp 50], none⟩])
  (.seq (.cond (.tmp 52) .skip
  (.exit 0))
  (.seq (.block 1 (.seq (.reg [⟨(some 53), .p (.indexAddr 1), [.tmp 49, .tmp 51], none⟩,
    ⟨(some 54), .r (.load none), [.tmp 53], none⟩,
    ⟨(some 10), .p .move, [.tmp 54], none⟩])
  (.seq (.reg [⟨(some 56), .p .move, [.tmp 10], none⟩,
    ⟨(some 57), .h (.call 22), [.tmp 56], none⟩,
    ⟨(some 55), .p .move, [.tmp 57], none⟩,
    ⟨(some 58), .p (.extract 0), [.tmp 55], none⟩,
    ⟨(some 59), .p (.extract 1), [.tmp 55], none⟩,
    ⟨(some 11), .a (.alloc [(.int .i64 0), (.int .i64 0), (.int .i64 0), (.int .i64 0), (.int .i64 0), (.int .i64 0), (.int .i64 0), (.int .i64 0), (.int .i64 0), (.str []), (.str []), (.str []), (.int .i64 0), (.int .i64 0), (.str []), .nilslice, (.bool false), (.str []), (.int .i64 0), (.int .u64 0), (.int .u64 0), (.int .i64 0), .nilslice, (.int .i64 0), (.int .i64 0)]), [], none⟩,
    ⟨none, .h (.store 25), [.tmp 11, .tmp 58], none⟩,
    ⟨(some 12), .p .move, [.tmp 59], none⟩])
  (.seq (.reg [⟨(some 61), .p .move, [.tmp 10], none⟩,
    ⟨(some 62), .h (.call 23), [.tmp 61], none⟩,
    ⟨(some 60), .p .move, [.tmp 62], none⟩,
    ⟨(some 63), .p (.extract 0), [.tmp 60], none⟩,
    ⟨(some 64), .p (.extract 1), [.tmp 60], none⟩,
    ⟨(some 13), .a (.alloc [(.int .i64 0), (.int .i64 0), (.int .i64 0), (.int .i64 0), (.int .i64 0), (.int .i64 0), (.int .i64 0), (.int .i64 0), (.int .i64 0), (.str []), (.str []), (.str []), (.int .i64 0), (.int .i64 0), (.str []), .nilslice, (.bool false), (.str []), (.int .i64 0), (.int .u64 0), (.int .u64 0), (.int .i64 0), .nilslice, (.int .i64 0), (.int .i64 0)]), [], none⟩,
    ⟨none, .h (.store 25), [.tmp 13, .tmp 63], none⟩,
    ⟨(some 14), .p .move, [.tmp 64], none⟩])
  (.seq (.reg [⟨(some 65), .p .move, [.tmp 12], none⟩,
    ⟨(some 66), .p .move, [.tmp 14], none⟩,
    ⟨(some 67), .p (.eq true .bool), [.tmp 65, .tmp 66], none⟩,
    ⟨(some 68), .p .move, [.tmp 67], none⟩,
    ⟨(some 69), .r (.load (some 25)), [.tmp 11], some (68, false)⟩,
    ⟨(some 70), .r (.load (some 25)), [.tmp 13], some (68, false)⟩,
    ⟨(some 71), .h (.call 24), [.tmp 69, .tmp 70], some (68, false)⟩,
    ⟨(some 72), .p .not, [.tmp 71], some (68, false)⟩,
    ⟨(some 73), .p .pick, [.tmp 68, .lit (.bool true), .tmp 72], none⟩,
    ⟨(some 74), .p .move, [.tmp 73], none⟩,
    ⟨(some 75), .p .move, [.tmp 10], some (74, false)⟩,
    ⟨(some 76), .p .move, [.tmp 5], some (74, false)⟩,
    ⟨(some 77), .p (.bin .eql), [.tmp 75, .tmp 76], some (74, false)⟩,
    ⟨(some 78), .p .move, [.tmp 77], some (74, false)⟩,
    ⟨(some 79), .p .move, [.tmp 6], some (78, true)⟩,
    ⟨(some 80), .p .pick, [.tmp 78, .tmp 79, .lit (.bool false)], some (74, false)⟩,
    ⟨(some 81), .p .move, [.tmp 80], some (74, false)⟩,
    ⟨(some 82), .p .move, [.tmp 12], some (81, true)⟩,
    ⟨(some 83), .p .not, [.tmp 82], some (81, true)⟩,
    ⟨(some 84), .p .move, [.tmp 83], some (81, true)⟩,
    ⟨(some 85), .r (.load (some 25)), [.tmp 11], some (84, false)⟩,
    ⟨(some 86), .r (.load (some 25)), [.tmp 2], some (84, false)⟩,
    ⟨(some 87), .h (.call 24), [.tmp 85, .tmp 86], some (84, false)⟩,
    ⟨(some 88), .p .not, [.tmp 87], some (84, false)⟩,
    ⟨(some 89), .p .pick, [.tmp 84, .lit (.bool true), .tmp 88], some (81, true)⟩,
    ⟨(some 90), .p .pick, [.tmp 81, .tmp 89, .lit (.bool false)], some (74, false)⟩,
    ⟨(some 91), .p .pick, [.tmp 74, .lit (.bool true), .tmp 90], none⟩])
  (.cond (.tmp 91) (.seq (.reg [⟨(some 4), .p .move, [.lit (.bool false)], none⟩])
  .ret)
  .skip))))))
  (.reg [⟨(some 92), .p (.bin .add), [.tmp 51, .lit (.int .i64 1)], none⟩,
    ⟨(some 51), .p .move, [.tmp 92], none⟩])))))))
  (.seq (.reg [⟨(some 4), .p .move, [.lit (.bool true)], none⟩])
  .ret))))))), [.tmp 4]⟩
theorem c8 : cFunc Go.Proofs.Tryd.prog false 2 Go.Proofs.Tryd.f8 = some sf8 := by kernel_rfl
def ss8 : List Sh := [(.st [(.int .i64), (.int .i64), (.int .i64), (.int .i64), (.st [(.int .i64), (.int .i64), (.int .i64), (.int .i64), (.st [(.int .i64), .str, .str, .str, (.int .i64)]), (.st [(.int .i64), .str, (.sl 32 (.st [.str, .str])), .bool, .str, (.int .i64)]), (.st [(.int .u64), (.int .u64)]), (.int .i64), (.sl 32 (.st [.str, .str])), (.int .i64), (.int .i64)])]), .str]
theorem cs8 : shsOf Go.Proofs.Tryd.prog 12 Go.Proofs.Tryd.f8.params.toList = some ss8 := by kernel_rfl

/-- rosary/rosarylaw7.PacketCuts -/
def sf9 : SFunc := ⟨2, 66, (.seq (.reg [⟨(some 2), .a .box, [.tmp 0], none⟩,
    ⟨(some 4), .p .move, [.lit (.bool false)], none⟩])
  (.seq (.seq (.reg [⟨(some 11), .p (.fieldAddr 4), [.tmp 2], none⟩,
    ⟨(some 12), .r (.load (some 21)), [.tmp 11], none⟩,
    ⟨(some 13), .h (.call 10), [.tmp 12], none⟩,
    ⟨(some 14), .p .not, [.tmp 13], none⟩,
    ⟨(some 15), .p .move, [.tmp 14], none⟩,
    ⟨(some 16), .h (.call 11), [], some (15, false)⟩,
    ⟨(some 17), .p .not, [.tmp 16], some (15, false)⟩,
    ⟨(some 18), .p .pick, [.tmp 15, .lit (.bool true), .tmp 17], none⟩])
  (.cond (.tmp 18) (.seq (.reg [⟨(some 19), .h (.call 11), [], none⟩,
    ⟨(some 4), .p .move, [.tmp 19], none⟩])
  .ret)
  .skip))
  (.seq (.reg [⟨(some 21), .r (.load (some 25)), [.tmp 2], none⟩,
    ⟨(some 22), .h (.call 20), [.tmp 21], none⟩,
    ⟨(some 20), .p .move, [.tmp 22], none⟩,
    ⟨(some 23), .p (.extract 0), [.tmp 20], none⟩,
    ⟨(some 24), .p (.extract 1), [.tmp 20], none⟩,
    ⟨(some 5), .p .move, [.tmp 23], none⟩,
    ⟨(some 6), .p .move, [.tmp 24], none⟩])
  (.seq (.seq (.reg [⟨(some 25), .p .move, [.tmp 6], none⟩,
    ⟨(some 26), .p .not, [.tmp 25], none⟩,
    ⟨(some 27), .p .move, [.tmp 26], none⟩,
    ⟨(some 28), .p .move, [.tmp 5], some (27, false)⟩,
    ⟨(some 29), .p .lenStr, [.tmp 28], some (27, false)⟩,
    ⟨(some 30), .p (.bin .eql), [.tmp 29, .lit (.int .i64 0)], some (27, false)⟩,
    ⟨(some 31), .p .pick, [.tmp 27, .lit (.bool true), .tmp 30], none⟩])
  (.cond (.tmp 31) (.seq (.reg [⟨(some 32), .p .move, [.tmp 6], none⟩,
    ⟨(some 33), .p .not, [.tmp 32], none⟩,
    ⟨(some 34), .p .move, [.tmp 33], none⟩,
    ⟨(some 35), .p .move, [.tmp 5], some (34, true)⟩,
    ⟨(some 36), .p (.bin .eql), [.tmp 35, .lit (.str [])], some (34, true)⟩,
    ⟨(some 37), .p .pick, [.tmp 34, .tmp 36, .lit (.bool false)], none⟩,
    ⟨(some 4), .p .move, [.tmp 37], none⟩])
  .ret)
  .skip))
  (.seq (.reg [⟨(some 39), .p .move, [.tmp 5], none⟩,
    ⟨(some 40), .p .move, [.tmp 1], none⟩,
    ⟨(some 41), .p .move, [.tmp 5], none⟩,
    ⟨(some 42), .p .lenStr, [.tmp 41], none⟩,
    ⟨(some 43), .p (.bin .rem), [.tmp 40, .tmp 42], none⟩,
    ⟨(some 44), .p .move, [.tmp 5], none⟩,
    ⟨(some 45), .p .lenStr, [.tmp 44], none⟩,
    ⟨(some 46), .p (.bin .add), [.tmp 43, .tmp 45], none⟩,
    ⟨(some 47), .p .move, [.tmp 5], none⟩,
    ⟨(some 48), .p .lenStr, [.tmp 47], none⟩,
    ⟨(some 49), .p (.bin .rem), [.tmp 46, .tmp 48], none⟩,
    ⟨(some 50), .p (.sliceStr false true), [.tmp 39, .tmp 49], none⟩,
    ⟨(some 51), .h (.call 22), [.tmp 50], none⟩,
    ⟨(some 38), .p .move, [.tmp 51], none⟩,
    ⟨(some 52), .p (.extract 0), [.tmp 38], none⟩,
    ⟨(some 53), .p (.extract 1), [.tmp 38], none⟩,
    ⟨(some 7), .a (.alloc [(.int .i64 0), (.int .i64 0), (.int .i64 0), (.int .i64 0), (.int .i64 0), (.int .i64 0), (.int .i64 0), (.int .i64 0), (.int .i64 0), (.str []), (.str []), (.str []), (.int .i64 0), (.int .i64 0), (.str []), .nilslice, (.bool false), (.str []), (.int .i64 0), (.int .u64 0), (.int .u64 0), (.int .i64 0), .nilslice, (.int .i64 0), (.int .i64 0)]), [], none⟩,
    ⟨none, .h (.store 25), [.tmp 7, .tmp 52], none⟩,
    ⟨(some 8), .p .move, [.tmp 53], none⟩])
  (.seq (.reg [⟨(some 55), .p .move, [.tmp 5], none⟩,
    ⟨(some 56), .p (.bin .add), [.tmp 55, .lit (.str [120])], none⟩,
    ⟨(some 57), .h (.call 22), [.tmp 56], none⟩,
    ⟨(some 54), .p .move, [.tmp 57], none⟩,
    ⟨(some 58), .p (.extract 0), [.tmp 54], none⟩,
    ⟨(some 59), .p (.extract 1), [.tmp 54], none⟩,
    ⟨(some 9), .a (.alloc [(.int .i64 0), (.int .i64 0), (.int .i64 0), (.int .i64 0), (.int .i64 0), (.int .i64 0), (.int .i64 0), (.int .i64 0), (.int .i64 0), (.str []), (.str []), (.str []), (.int .i64 0), (.int .i64 0), (.str []), .nilslice, (.bool false), (.str []), (.int .i64 0), (.int .u64 0), (.int .u64 0), (.int .i64 0), .nilslice, (.int .i64 0), (.int .i64 0)]), [], none⟩,
    ⟨none, .h (.store 25), [.tmp 9, .tmp 58], none⟩,
    ⟨(some 10), .p .move, [.tmp 59], none⟩])
  (.seq (.reg [⟨(some 60), .p .move, [.tmp 8], none⟩,
    ⟨(some 61), .p .not, [.tmp 60], none⟩,
    ⟨(some 62), .p .move, [.tmp 61], none⟩,
    ⟨(some 63), .p .move, [.tmp 10], some (62, true)⟩,
    ⟨(some 64), .p .not, [.tmp 63], some (62, true)⟩,
    ⟨(some 65), .p .pick, [.tmp 62, .tmp 64, .lit (.bool false)], none⟩,
    ⟨(some 4), .p .move, [.tmp 65], none⟩])
  .ret))))))), [.tmp 4]⟩
theorem c9 : cFunc Go.Proofs.Tryd.prog false 2 Go.Proofs.Tryd.f9 = some sf9 := by kernel_rfl
def ss9 : List Sh := [(.st [(.int .i64), (.int .i64), (.int .i64), (.int .i64), (.st [(.int .i64), (.int .i64), (.int .i64), (.int .i64), (.st [(.int .i64), .str, .str, .str, (.int .i64)]), (.st [(.int .i64), .str, (.sl 32 (.st [.str, .str])), .bool, .str, (.int .i64)]), (.st [(.int .u64), (.int .u64)]), (.int .i64), (.sl 32 (.st [.str, .str])), (.int .i64), (.int .i64)])]), (.int .i64)]
theorem cs9 : shsOf Go.Proofs.Tryd.prog 12 Go.Proofs.Tryd.f9.params.toList = some ss9 := by kernel_rfl

/-- rosary/rosarylaw7.Light -/
def sf10 : SFunc := ⟨1, 76, (.seq (.reg [⟨(some 1), .a .box, [.tmp 0], none⟩,
    ⟨(some 2), .p .move, [.lit (.bool false)], none⟩])
  (.seq (.seq (.reg [⟨(some 6), .p (.fieldAddr 18), [.tmp 1], none⟩,
    ⟨(some 7), .r (.load none), [.tmp 6], none⟩,
    ⟨(some 8), .p (.fieldAddr 9), [.tmp 1], none⟩,
    ⟨(some 9), .p (.fieldAddr 2), [.tmp 8], none⟩,
    ⟨(some 10), .r (.load none), [.tmp 9], none⟩,
    ⟨(some 11), .a (.buildSlice 1 2 [.nilslice] [0, 1]), [.tmp 7, .tmp 10], none⟩,
    ⟨(some 12), .p .lenSl, [.tmp 11], none⟩,
    ⟨(some 13), .p .move, [.lit (.int .i64 0)], none⟩])
  (.block 0 (.loop [1, 11, 12, 13] (.seq (.reg [⟨(some 14), .p (.bin .lss), [.tmp 13, .tmp 12], none⟩])
  (.seq (.cond (.tmp 14) .skip
  (.exit 0))
  (.seq (.block 1 (.seq (.reg [⟨(some 15), .p (.indexAddr 1), [.tmp 11, .tmp 13], none⟩,
    ⟨(some 16), .r (.load none), [.tmp 15], none⟩,
    ⟨(some 4), .p .move, [.tmp 16], none⟩])
  (.seq (.seq (.reg [⟨(some 17), .p .move, [.tmp 4], none⟩,
    ⟨(some 18), .p .lenSl, [.tmp 17], none⟩,
    ⟨(some 19), .p (.bin .gtr), [.tmp 18, .lit (.int .i64 60)], none⟩])
  (.cond (.tmp 19) (.seq (.reg [⟨(some 2), .p .move, [.lit (.bool false)], none⟩])
  .ret)
  .skip))
  (.seq (.reg [⟨(some 5), .p .move, [.lit (.int .i64 0)], none⟩])
  (.block 2 (.loop [1, 4, 5, 11, 12, 13] (.seq (.seq (.reg [⟨(some 20), .p .move, [.tmp 5], none⟩,
    ⟨(some 21), .p .move, [.tmp 4], none⟩,
    ⟨(some 22), .p .lenSl, [.tmp 21], none⟩,
    ⟨(some 23), .p (.bin .lss), [.tmp 20, .tmp 22], none⟩])
  (.cond (.tmp 23) .skip
  (.exit 2)))
  (.seq (.block 3 (.seq (.reg [⟨(some 26), .p .move, [.tmp 4], none⟩,
    ⟨(some 27), .p .move, [.tmp 5], none⟩,
    ⟨(some 28), .p (.indexAddr 2), [.tmp 26, .tmp 27], none⟩,
    ⟨(some 29), .p (.fieldAddr 0), [.tmp 28], none⟩,
    ⟨(some 30), .r (.load none), [.tmp 29], none⟩,
    ⟨(some 31), .p .lenStr, [.tmp 30], none⟩,
    ⟨(some 32), .p (.bin .gtr), [.tmp 31, .lit (.int .i64 300)], none⟩,
    ⟨(some 33), .p .move, [.tmp 32], none⟩,
    ⟨(some 34), .p .move, [.tmp 4], some (33, false)⟩,
    ⟨(some 35), .p .move, [.tmp 5], some (33, false)⟩,
    ⟨(some 36), .p (.indexAddr 2), [.tmp 34, .tmp 35], some (33, false)⟩,
    ⟨(some 37), .p (.fieldAddr 1), [.tmp 36], some (33, false)⟩,
    ⟨(some 38), .r (.load none), [.tmp 37], some (33, false)⟩,
    ⟨(some 39), .p .lenStr, [.tmp 38], some (33, false)⟩,
    ⟨(some 40), .p (.bin .gtr), [.tmp 39, .lit (.int .i64 300)], some (33, false)⟩,
    ⟨(some 41), .p .pick, [.tmp 33, .lit (.bool true), .tmp 40], none⟩])
  (.cond (.tmp 41) (.seq (.reg [⟨(some 2), .p .move, [.lit (.bool false)], none⟩])
  .ret)
  .skip)))
  (.reg [⟨(some 24), .p .move, [.tmp 5], none⟩,
    ⟨(some 25), .p (.bin .add), [.tmp 24, .lit (.int .i64 1)], none⟩,
    ⟨(some 5), .p .move, [.tmp 25], none⟩])))))))))
  (.reg [⟨(some 42), .p (.bin .add), [.tmp 13, .lit (.int .i64 1)], none⟩,
    ⟨(some 13), .p .move, [.tmp 42], none⟩])))))))
  (.seq (.reg [⟨(some 43), .p (.fieldAddr 4), [.tmp 1], none⟩,
    ⟨(some 44), .p (.fieldAddr 1), [.tmp 43], none⟩,
    ⟨(some 45), .r (.load none), [.tmp 44], none⟩,
    ⟨(some 46), .p .lenStr, [.tmp 45], none⟩,
    ⟨(some 47), .p (.bin .leq), [.tmp 46, .lit (.int .i64 300)], none⟩,
    ⟨(some 48), .p .move, [.tmp 47], none⟩,
    ⟨(some 49), .p (.fieldAddr 4), [.tmp 1], some (48, true)⟩,
    ⟨(some 50), .p (.fieldAddr 2), [.tmp 49], some (48, true)⟩,
    ⟨(some 51), .r (.load none), [.tmp 50], some (48, true)⟩,
    ⟨(some 52), .p .lenStr, [.tmp 51], some (48, true)⟩,
    ⟨(some 53), .p (.bin .leq), [.tmp 52, .lit (.int .i64 300)], some (48, true)⟩,
    ⟨(some 54), .p .pick, [.tmp 48, .tmp 53, .lit (.bool false)], none⟩,
    ⟨(some 55), .p .move, [.tmp 54], none⟩,
    ⟨(some 56), .p (.fieldAddr 4), [.tmp 1], some (55, true)⟩,
    ⟨(some 57), .p (.fieldAddr 3), [.tmp 56], some (55, true)⟩,
    ⟨(some 58), .r (.load none), [.tmp 57], some (55, true)⟩,
    ⟨(some 59), .p .lenStr, [.tmp 58], some (55, true)⟩,
    ⟨(some 60), .p (.bin .leq), [.tmp 59, .lit (.int .i64 300)], some (55, true)⟩,
    ⟨(some 61), .p .pick, [.tmp 55, .tmp 60, .lit (.bool false)], none⟩,
    ⟨(some 62), .p .move, [.tmp 61], none⟩,
    ⟨(some 63), .p (.fieldAddr 9), [.tmp 1], some (62, true)⟩,
    ⟨(some 64), .p (.fieldAddr 1), [.tmp 63], some (62, true)⟩,
    ⟨(some 65), .r (.load none), [.tmp 64], some (62, true)⟩,
    ⟨(some 66), .p .lenStr, [.tmp 65], some (62, true)⟩,
    ⟨(some 67), .p (.bin .leq), [.tmp 66, .lit (.int .i64 300)], some (62, true)⟩,
    ⟨(some 68), .p .pick, [.tmp 62, .tmp 67, .lit (.bool false)], none⟩,
    ⟨(some 69), .p .move, [.tmp 68], none⟩,
    ⟨(some 70), .p (.fieldAddr 9), [.tmp 1], some (69, true)⟩,
    ⟨(some 71), .p (.fieldAddr 4), [.tmp 70], some (69, true)⟩,
    ⟨(some 72), .r (.load none), [.tmp 71], some (69, true)⟩,
    ⟨(some 73), .p .lenStr, [.tmp 72], some (69, true)⟩,
    ⟨(some 74), .p (.bin .leq), [.tmp 73, .lit (.int .i64 300)], some (69, true)⟩,
    ⟨(some 75), .p .pick, [.tmp 69, .tmp 74, .lit (.bool false)], none⟩,
    ⟨(some 2), .p .move, [.tmp 75], none⟩])
  .ret))), [.tmp 2]⟩
theorem c10 : cFunc Go.Proofs.Tryd.prog false 1 Go.Proofs.Tryd.f10 = some sf10 := by kernel_rfl
def ss10 : List Sh := [(.st [(.int .i64), (.int .i64), (.int .i64), (.int .i64), (.st [(.int .i64), .str, .str, .str, (.int .i64)]), (.st [(.int .i64), .str, (.sl 32 (.st [.str, .str])), .bool, .str, (.int .i64)]), (.st [(.int .u64), (.int .u64)]), (.int .i64), (.sl 32 (.st [.str, .str])), (.int .i64), (.int .i64)])]
theorem cs10 : shsOf Go.Proofs.Tryd.prog 12 Go.Proofs.Tryd.f10.params.toList = some ss10 := by kernel_rfl

/-- rosary/rosarylaw7.alive -/
def sf11 : SFunc := ⟨0, 35, (.seq (.reg [⟨(some 0), .p .move, [.lit (.bool false)], none⟩])
  (.seq (.reg [⟨(some 6), .p (.build [(.int .u64 0), (.int .u64 0)] [(0, 1), (1, 1)]), [.lit (.int .u64 5), .lit (.int .u64 6)], none⟩,
    ⟨(some 7), .p (.build [(.int .i64 0), (.int .i64 0), (.int .i64 0), (.int .i64 0), (.int .i64 0), (.str []), (.str []), (.str []), (.int .i64 0), (.int .i64 0), (.str []), .nilslice, (.bool false), (.str []), (.int .i64 0), (.int .u64 0), (.int .u64 0), (.int .i64 0), .nilslice, (.int .i64 0), (.int .i64 0)] [(0, 1), (1, 1), (2, 1), (3, 1), (19, 1), (15, 2)]), [.lit (.int .i64 10), .lit (.int .i64 1), .lit (.int .i64 2), .lit (.int .i64 3), .lit (.int .i64 4), .tmp 6], none⟩,
    ⟨(some 1), .a (.alloc [(.int .i64 0), (.int .i64 0), (.int .i64 0), (.int .i64 0), (.int .i64 0), (.str []), (.str []), (.str []), (.int .i64 0), (.int .i64 0), (.str []), .nilslice, (.bool false), (.str []), (.int .i64 0), (.int .u64 0), (.int .u64 0), (.int .i64 0), .nilslice, (.int .i64 0), (.int .i64 0)]), [], none⟩,
    ⟨none, .h (.store 21), [.tmp 1, .tmp 7], none⟩])
  (.seq (.reg [⟨(some 9), .r (.load (some 21)), [.tmp 1], none⟩,
    ⟨(some 10), .h (.call 12), [.tmp 9], none⟩,
    ⟨(some 8), .p .move, [.tmp 10], none⟩,
    ⟨(some 11), .p (.extract 0), [.tmp 8], none⟩,
    ⟨(some 12), .p (.extract 1), [.tmp 8], none⟩,
    ⟨(some 2), .p .move, [.tmp 11], none⟩,
    ⟨(some 3), .p .move, [.tmp 12], none⟩])
  (.seq (.reg [⟨(some 14), .p .move, [.tmp 2], none⟩,
    ⟨(some 15), .h (.call 13), [.tmp 14], none⟩,
    ⟨(some 13), .p .move, [.tmp 15], none⟩,
    ⟨(some 16), .p (.extract 0), [.tmp 13], none⟩,
    ⟨(some 17), .p (.extract 1), [.tmp 13], none⟩,
    ⟨(some 4), .a (.alloc [(.int .i64 0), (.int .i64 0), (.int .i64 0), (.int .i64 0), (.int .i64 0), (.str []), (.str []), (.str []), (.int .i64 0), (.int .i64 0), (.str []), .nilslice, (.bool false), (.str []), (.int .i64 0), (.int .u64 0), (.int .u64 0), (.int .i64 0), .nilslice, (.int .i64 0), (.int .i64 0)]), [], none⟩,
    ⟨none, .h (.store 21), [.tmp 4, .tmp 16], none⟩,
    ⟨(some 5), .p .move, [.tmp 17], none⟩])
  (.seq (.reg [⟨(some 18), .p .move, [.tmp 3], none⟩,
    ⟨(some 19), .p .move, [.tmp 18], none⟩,
    ⟨(some 20), .p .move, [.tmp 5], some (19, true)⟩,
    ⟨(some 21), .p .pick, [.tmp 19, .tmp 20, .lit (.bool false)], none⟩,
    ⟨(some 22), .p .move, [.tmp 21], none⟩,
    ⟨(some 23), .r (.load (some 21)), [.tmp 1], some (22, true)⟩,
    ⟨(some 24), .r (.load (some 21)), [.tmp 4], some (22, true)⟩,
    ⟨(some 25), .h (.call 14), [.tmp 23, .tmp 24], some (22, true)⟩,
    ⟨(some 26), .p .pick, [.tmp 22, .tmp 25, .lit (.bool false)], none⟩,
    ⟨(some 27), .p .move, [.tmp 26], none⟩,
    ⟨(some 28), .h (.call 15), [.lit (.int .i64 10)], some (27, true)⟩,
    ⟨(some 29), .p (.bin .eql), [.tmp 28, .lit (.str [111, 102, 102, 101, 114])], some (27, true)⟩,
    ⟨(some 30), .p .pick, [.tmp 27, .tmp 29, .lit (.bool false)], none⟩,
    ⟨(some 31), .p .move, [.tmp 30], none⟩,
    ⟨(some 32), .h (.call 15), [.lit (.int .i64 0)], some (31, true)⟩,
    ⟨(some 33), .p (.bin .eql), [.tmp 32, .lit (.str [])], some (31, true)⟩,
    ⟨(some 34), .p .pick, [.tmp 31, .tmp 33, .lit (.bool false)], none⟩,
    ⟨(some 0), .p .move, [.tmp 34], none⟩])
  .ret))))), [.tmp 0]⟩
theorem c11 : cFunc Go.Proofs.Tryd.prog false 0 Go.Proofs.Tryd.f11 = some sf11 := by kernel_rfl
def ss11 : List Sh := []
theorem cs11 : shsOf Go.Proofs.Tryd.prog 12 Go.Proofs.Tryd.f11.params.toList = some ss11 := by kernel_rfl

/-- rosary/letter.Put -/
def sf12 : SFunc := ⟨1, 90, (.seq (.reg [⟨(some 1), .a .box, [.tmp 0], none⟩,
    ⟨(some 2), .p .move, [.lit (.str [])], none⟩,
    ⟨(some 3), .p .move, [.lit (.bool false)], none⟩])
  (.seq (.seq (.reg [⟨(some 6), .r (.load (some 21)), [.tmp 1], none⟩,
    ⟨(some 7), .h (.call 16), [.tmp 6], none⟩,
    ⟨(some 8), .p .not, [.tmp 7], none⟩])
  (.cond (.tmp 8) (.seq (.reg [⟨(some 2), .p .move, [.lit (.str [])], none⟩,
    ⟨(some 3), .p .move, [.lit (.bool false)], none⟩])
  .ret)
  .skip))
  (.seq (.reg [⟨(some 4), .a .newBld, [], none⟩])
  (.seq (.reg [⟨(some 9), .p (.fieldAddr 0), [.tmp 1], none⟩,
    ⟨(some 10), .r (.load none), [.tmp 9], none⟩,
    ⟨(some 11), .p (.fieldAddr 1), [.tmp 1], none⟩,
    ⟨(some 12), .r (.load none), [.tmp 11], none⟩,
    ⟨(some 13), .p (.fieldAddr 2), [.tmp 1], none⟩,
    ⟨(some 14), .r (.load none), [.tmp 13], none⟩,
    ⟨(some 15), .p (.fieldAddr 3), [.tmp 1], none⟩,
    ⟨(some 16), .r (.load none), [.tmp 15], none⟩,
    ⟨(some 17), .p (.fieldAddr 17), [.tmp 1], none⟩,
    ⟨(some 18), .r (.load none), [.tmp 17], none⟩,
    ⟨(some 19), .p (.fieldAddr 19), [.tmp 1], none⟩,
    ⟨(some 20), .r (.load none), [.tmp 19], none⟩,
    ⟨(some 21), .p (.fieldAddr 20), [.tmp 1], none⟩,
    ⟨(some 22), .r (.load none), [.tmp 21], none⟩,
    ⟨(some 23), .a (.buildSlice 1 7 [(.int .i64 0)] [0, 1, 2, 3, 4, 5, 6]), [.tmp 10, .tmp 12, .tmp 14, .tmp 16, .tmp 18, .tmp 20, .tmp 22], none⟩,
    ⟨(some 24), .h (.call 25), [.tmp 4, .tmp 23], none⟩])
  (.seq (.dreg [⟨[⟨(some 25), .p (.fieldAddr 0), [.tmp 4], none⟩,
    ⟨(some 26), .p (.fieldAddr 15), [.tmp 1], none⟩,
    ⟨(some 27), .p (.fieldAddr 0), [.tmp 26], none⟩,
    ⟨(some 28), .r (.load none), [.tmp 27], none⟩,
    ⟨(some 30), .p (.fieldAddr 15), [.tmp 1], none⟩,
    ⟨(some 31), .p (.fieldAddr 1), [.tmp 30], none⟩,
    ⟨(some 32), .r (.load none), [.tmp 31], none⟩], [], some ⟨(some 29), .h (.call 27), [.tmp 28], none⟩⟩,
   ⟨[], [⟨(some 32), .r (.load none), [.tmp 31], none⟩], some ⟨(some 33), .h (.call 27), [.tmp 32], none⟩⟩,
   ⟨[⟨(some 34), .p (.bin .add), [.tmp 29, .tmp 33], none⟩], [], some ⟨(some 35), .h (.call 26), [.tmp 25, .tmp 34], none⟩⟩,
   ⟨[], [], none⟩])
  (.seq (.reg [⟨(some 36), .p (.fieldAddr 18), [.tmp 1], none⟩,
    ⟨(some 37), .r (.load none), [.tmp 36], none⟩,
    ⟨(some 38), .h (.call 28), [.tmp 4, .tmp 37], none⟩])
  (.seq (.reg [⟨(some 39), .p (.fieldAddr 4), [.tmp 1], none⟩,
    ⟨(some 40), .p (.fieldAddr 0), [.tmp 39], none⟩,
    ⟨(some 41), .r (.load none), [.tmp 40], none⟩,
    ⟨(some 42), .a (.buildSlice 1 1 [(.int .i64 0)] [0]), [.tmp 41], none⟩,
    ⟨(some 43), .h (.call 25), [.tmp 4, .tmp 42], none⟩])
  (.seq (.reg [⟨(some 44), .p (.fieldAddr 4), [.tmp 1], none⟩,
    ⟨(some 45), .p (.fieldAddr 1), [.tmp 44], none⟩,
    ⟨(some 46), .r (.load none), [.tmp 45], none⟩,
    ⟨(some 47), .p (.fieldAddr 4), [.tmp 1], none⟩,
    ⟨(some 48), .p (.fieldAddr 2), [.tmp 47], none⟩,
    ⟨(some 49), .r (.load none), [.tmp 48], none⟩,
    ⟨(some 50), .p (.fieldAddr 4), [.tmp 1], none⟩,
    ⟨(some 51), .p (.fieldAddr 3), [.tmp 50], none⟩,
    ⟨(some 52), .r (.load none), [.tmp 51], none⟩,
    ⟨(some 53), .a (.buildSlice 1 3 [(.str [])] [0, 1, 2]), [.tmp 46, .tmp 49, .tmp 52], none⟩,
    ⟨(some 54), .h (.call 29), [.tmp 4, .tmp 53], none⟩])
  (.seq (.reg [⟨(some 55), .p (.fieldAddr 4), [.tmp 1], none⟩,
    ⟨(some 56), .p (.fieldAddr 4), [.tmp 55], none⟩,
    ⟨(some 57), .r (.load none), [.tmp 56], none⟩,
    ⟨(some 58), .p (.fieldAddr 9), [.tmp 1], none⟩,
    ⟨(some 59), .p (.fieldAddr 0), [.tmp 58], none⟩,
    ⟨(some 60), .r (.load none), [.tmp 59], none⟩,
    ⟨(some 61), .a (.buildSlice 1 2 [(.int .i64 0)] [0, 1]), [.tmp 57, .tmp 60], none⟩,
    ⟨(some 62), .h (.call 25), [.tmp 4, .tmp 61], none⟩])
  (.seq (.reg [⟨(some 63), .p (.fieldAddr 9), [.tmp 1], none⟩,
    ⟨(some 64), .p (.fieldAddr 1), [.tmp 63], none⟩,
    ⟨(some 65), .r (.load none), [.tmp 64], none⟩,
    ⟨(some 66), .a (.buildSlice 1 1 [(.str [])] [0]), [.tmp 65], none⟩,
    ⟨(some 67), .h (.call 29), [.tmp 4, .tmp 66], none⟩])
  (.seq (.reg [⟨(some 68), .p (.fieldAddr 9), [.tmp 1], none⟩,
    ⟨(some 69), .p (.fieldAddr 2), [.tmp 68], none⟩,
    ⟨(some 70), .r (.load none), [.tmp 69], none⟩,
    ⟨(some 71), .h (.call 28), [.tmp 4, .tmp 70], none⟩])
  (.seq (.reg [⟨(some 5), .p .move, [.lit (.int .i64 0)], none⟩])
  (.seq (.seq (.reg [⟨(some 72), .p (.fieldAddr 9), [.tmp 1], none⟩,
    ⟨(some 73), .p (.fieldAddr 3), [.tmp 72], none⟩,
    ⟨(some 74), .r (.load none), [.tmp 73], none⟩])
  (.cond (.tmp 74) (.reg [⟨(some 5), .p .move, [.lit (.int .i64 1)], none⟩])
  .skip))
  (.seq (.reg [⟨(some 75), .p .move, [.tmp 5], none⟩,
    ⟨(some 76), .a (.buildSlice 1 1 [(.int .i64 0)] [0]), [.tmp 75], none⟩,
    ⟨(some 77), .h (.call 25), [.tmp 4, .tmp 76], none⟩])
  (.seq (.reg [⟨(some 78), .p (.fieldAddr 9), [.tmp 1], none⟩,
    ⟨(some 79), .p (.fieldAddr 4), [.tmp 78], none⟩,
    ⟨(some 80), .r (.load none), [.tmp 79], none⟩,
    ⟨(some 81), .a (.buildSlice 1 1 [(.str [])] [0]), [.tmp 80], none⟩,
    ⟨(some 82), .h (.call 29), [.tmp 4, .tmp 81], none⟩])
  (.seq (.reg [⟨(some 83), .p (.fieldAddr 9), [.tmp 1], none⟩,
    ⟨(some 84), .p (.fieldAddr 5), [.tmp 83], none⟩,
    ⟨(some 85), .r (.load none), [.tmp 84], none⟩,
    ⟨(some 86), .a (.buildSlice 1 1 [(.int .i64 0)] [0]), [.tmp 85], none⟩,
    ⟨(some 87), .h (.call 25), [.tmp 4, .tmp 86], none⟩])
  (.seq (.reg [⟨(some 88), .p (.fieldAddr 0), [.tmp 4], none⟩,
    ⟨(some 89), .h (.call 30), [.tmp 88], none⟩,
    ⟨(some 2), .p .move, [.tmp 89], none⟩,
    ⟨(some 3), .p .move, [.lit (.bool true)], none⟩])
  .ret))))))))))))))))), [.tmp 2, .tmp 3]⟩
theorem c12 : cFunc Go.Proofs.Tryd.prog false 1 Go.Proofs.Tryd.f12 = some sf12 := by kernel_rfl

/-- rosary/letter.Get -/
def sf13 : SFunc := ⟨1, 31, (.seq (.reg [⟨(some 2), .a (.alloc [(.int .i64 0), (.int .i64 0), (.int .i64 0), (.int .i64 0), (.int .i64 0), (.str []), (.str []), (.str []), (.int .i64 0), (.int .i64 0), (.str []), .nilslice, (.bool false), (.str []), (.int .i64 0), (.int .u64 0), (.int .u64 0), (.int .i64 0), .nilslice, (.int .i64 0), (.int .i64 0)]), [], none⟩,
    ⟨(some 3), .p .move, [.lit (.bool false)], none⟩])
  (.seq (.reg [⟨(some 8), .p .move, [.tmp 0], none⟩,
    ⟨(some 9), .h (.call 31), [.tmp 8], none⟩,
    ⟨(some 4), .p .move, [.tmp 9], none⟩])
  (.seq (.reg [⟨(some 10), .p .move, [.tmp 4], none⟩,
    ⟨(some 11), .h (.call 32), [.tmp 10], none⟩,
    ⟨(some 5), .a (.alloc [(.int .i64 0), (.int .i64 0), (.int .i64 0), (.int .i64 0), (.int .i64 0), (.str []), (.str []), (.str []), (.int .i64 0), (.int .i64 0), (.str []), .nilslice, (.bool false), (.str []), (.int .i64 0), (.int .u64 0), (.int .u64 0), (.int .i64 0), .nilslice, (.int .i64 0), (.int .i64 0)]), [], none⟩,
    ⟨none, .h (.store 21), [.tmp 5, .tmp 11], none⟩])
  (.seq (.seq (.reg [⟨(some 13), .r (.load (some 21)), [.tmp 5], none⟩,
    ⟨(some 14), .h (.call 12), [.tmp 13], none⟩,
    ⟨(some 12), .p .move, [.tmp 14], none⟩,
    ⟨(some 15), .p (.extract 0), [.tmp 12], none⟩,
    ⟨(some 16), .p (.extract 1), [.tmp 12], none⟩,
    ⟨(some 6), .p .move, [.tmp 15], none⟩,
    ⟨(some 7), .p .move, [.tmp 16], none⟩])
  (.seq (.reg [⟨(some 17), .p .move, [.tmp 4], none⟩,
    ⟨(some 18), .h (.call 33), [.tmp 17], none⟩,
    ⟨(some 19), .p .not, [.tmp 18], none⟩,
    ⟨(some 20), .p .move, [.tmp 19], none⟩,
    ⟨(some 21), .p .move, [.tmp 7], some (20, false)⟩,
    ⟨(some 22), .p .not, [.tmp 21], some (20, false)⟩,
    ⟨(some 23), .p .pick, [.tmp 20, .lit (.bool true), .tmp 22], none⟩,
    ⟨(some 24), .p .move, [.tmp 23], none⟩,
    ⟨(some 25), .p .move, [.tmp 6], some (24, false)⟩,
    ⟨(some 26), .p .move, [.tmp 0], some (24, false)⟩,
    ⟨(some 27), .p (.bin .neq), [.tmp 25, .tmp 26], some (24, false)⟩,
    ⟨(some 28), .p .pick, [.tmp 24, .lit (.bool true), .tmp 27], none⟩])
  (.cond (.tmp 28) (.seq (.reg [⟨(some 29), .p (.build [(.int .i64 0), (.int .i64 0), (.int .i64 0), (.int .i64 0), (.int .i64 0), (.str []), (.str []), (.str []), (.int .i64 0), (.int .i64 0), (.str []), .nilslice, (.bool false), (.str []), (.int .i64 0), (.int .u64 0), (.int .u64 0), (.int .i64 0), .nilslice, (.int .i64 0), (.int .i64 0)] []), [], none⟩,
    ⟨none, .h (.store 21), [.tmp 2, .tmp 29], none⟩,
    ⟨(some 3), .p .move, [.lit (.bool false)], none⟩])
  .ret)
  .skip)))
  (.seq (.reg [⟨(some 30), .r (.load (some 21)), [.tmp 5], none⟩,
    ⟨none, .h (.store 21), [.tmp 2, .tmp 30], none⟩,
    ⟨(some 3), .p .move, [.lit (.bool true)], none⟩])
  .ret))))), [.cell 2 (some 21), .tmp 3]⟩
theorem c13 : cFunc Go.Proofs.Tryd.prog false 1 Go.Proofs.Tryd.f13 = some sf13 := by kernel_rfl

/-- rosary/rosarybook.SameLetter -/
def sf14 : SFunc := ⟨2, 80, (.seq (.reg [⟨(some 2), .a .box, [.tmp 0], none⟩,
    ⟨(some 3), .a .box, [.tmp 1], none⟩,
    ⟨(some 4), .p .move, [.lit (.bool false)], none⟩])
  (.seq (.reg [⟨(some 5), .p (.fieldAddr 0), [.tmp 2], none⟩,
    ⟨(some 6), .r (.load none), [.tmp 5], none⟩,
    ⟨(some 7), .p (.fieldAddr 0), [.tmp 3], none⟩,
    ⟨(some 8), .r (.load none), [.tmp 7], none⟩,
    ⟨(some 9), .p (.bin .eql), [.tmp 6, .tmp 8], none⟩,
    ⟨(some 10), .p .move, [.tmp 9], none⟩,
    ⟨(some 11), .p (.fieldAddr 1), [.tmp 2], some (10, true)⟩,
    ⟨(some 12), .r (.load none), [.tmp 11], some (10, true)⟩,
    ⟨(some 13), .p (.fieldAddr 1), [.tmp 3], some (10, true)⟩,
    ⟨(some 14), .r (.load none), [.tmp 13], some (10, true)⟩,
    ⟨(some 15), .p (.bin .eql), [.tmp 12, .tmp 14], some (10, true)⟩,
    ⟨(some 16), .p .pick, [.tmp 10, .tmp 15, .lit (.bool false)], none⟩,
    ⟨(some 17), .p .move, [.tmp 16], none⟩,
    ⟨(some 18), .p (.fieldAddr 2), [.tmp 2], some (17, true)⟩,
    ⟨(some 19), .r (.load none), [.tmp 18], some (17, true)⟩,
    ⟨(some 20), .p (.fieldAddr 2), [.tmp 3], some (17, true)⟩,
    ⟨(some 21), .r (.load none), [.tmp 20], some (17, true)⟩,
    ⟨(some 22), .p (.bin .eql), [.tmp 19, .tmp 21], some (17, true)⟩,
    ⟨(some 23), .p .pick, [.tmp 17, .tmp 22, .lit (.bool false)], none⟩,
    ⟨(some 24), .p .move, [.tmp 23], none⟩,
    ⟨(some 25), .p (.fieldAddr 3), [.tmp 2], some (24, true)⟩,
    ⟨(some 26), .r (.load none), [.tmp 25], some (24, true)⟩,
    ⟨(some 27), .p (.fieldAddr 3), [.tmp 3], some (24, true)⟩,
    ⟨(some 28), .r (.load none), [.tmp 27], some (24, true)⟩,
    ⟨(some 29), .p (.bin .eql), [.tmp 26, .tmp 28], some (24, true)⟩,
    ⟨(some 30), .p .pick, [.tmp 24, .tmp 29, .lit (.bool false)], none⟩,
    ⟨(some 31), .p .move, [.tmp 30], none⟩,
    ⟨(some 32), .p (.fieldAddr 4), [.tmp 2], some (31, true)⟩,
    ⟨(some 33), .r (.load (some 5)), [.tmp 32], some (31, true)⟩,
    ⟨(some 34), .p (.fieldAddr 4), [.tmp 3], some (31, true)⟩,
    ⟨(some 35), .r (.load (some 5)), [.tmp 34], some (31, true)⟩,
    ⟨(some 36), .p (.eq false (.agg [.int, .str, .str, .str, .int])), [.tmp 33, .tmp 35], some (31, true)⟩,
    ⟨(some 37), .p .pick, [.tmp 31, .tmp 36, .lit (.bool false)], none⟩,
    ⟨(some 38), .p .move, [.tmp 37], none⟩,
    ⟨(some 39), .p (.fieldAddr 9), [.tmp 2], some (38, true)⟩,
    ⟨(some 40), .r (.load (some 6)), [.tmp 39], some (38, true)⟩,
    ⟨(some 41), .p (.fieldAddr 9), [.tmp 3], some (38, true)⟩,
    ⟨(some 42), .r (.load (some 6)), [.tmp 41], some (38, true)⟩,
    ⟨(some 43), .h (.call 34), [.tmp 40, .tmp 42], some (38, true)⟩,
    ⟨(some 44), .p .pick, [.tmp 38, .tmp 43, .lit (.bool false)], none⟩,
    ⟨(some 45), .p .move, [.tmp 44], none⟩,
    ⟨(some 46), .p (.fieldAddr 15), [.tmp 2], some (45, true)⟩,
    ⟨(some 47), .r (.load (some 2)), [.tmp 46], some (45, true)⟩,
    ⟨(some 48), .p (.fieldAddr 15), [.tmp 3], some (45, true)⟩,
    ⟨(some 49), .r (.load (some 2)), [.tmp 48], some (45, true)⟩,
    ⟨(some 50), .p (.eq false (.agg [.int, .int])), [.tmp 47, .tmp 49], some (45, true)⟩,
    ⟨(some 51), .p .pick, [.tmp 45, .tmp 50, .lit (.bool false)], none⟩,
    ⟨(some 52), .p .move, [.tmp 51], none⟩,
    ⟨(some 53), .p (.fieldAddr 17), [.tmp 2], some (52, true)⟩,
    ⟨(some 54), .r (.load none), [.tmp 53], some (52, true)⟩,
    ⟨(some 55), .p (.fieldAddr 17), [.tmp 3], some (52, true)⟩,
    ⟨(some 56), .r (.load none), [.tmp 55], some (52, true)⟩,
    ⟨(some 57), .p (.bin .eql), [.tmp 54, .tmp 56], some (52, true)⟩,
    ⟨(some 58), .p .pick, [.tmp 52, .tmp 57, .lit (.bool false)], none⟩,
    ⟨(some 59), .p .move, [.tmp 58], none⟩,
    ⟨(some 60), .p (.fieldAddr 18), [.tmp 2], some (59, true)⟩,
    ⟨(some 61), .r (.load none), [.tmp 60], some (59, true)⟩,
    ⟨(some 62), .p (.fieldAddr 18), [.tmp 3], some (59, true)⟩,
    ⟨(some 63), .r (.load none), [.tmp 62], some (59, true)⟩,
    ⟨(some 64), .h (.call 35), [.tmp 61, .tmp 63], some (59, true)⟩,
    ⟨(some 65), .p .pick, [.tmp 59, .tmp 64, .lit (.bool false)], none⟩,
    ⟨(some 66), .p .move, [.tmp 65], none⟩,
    ⟨(some 67), .p (.fieldAddr 19), [.tmp 2], some (66, true)⟩,
    ⟨(some 68), .r (.load none), [.tmp 67], some (66, true)⟩,
    ⟨(some 69), .p (.fieldAddr 19), [.tmp 3], some (66, true)⟩,
    ⟨(some 70), .r (.load none), [.tmp 69], some (66, true)⟩,
    ⟨(some 71), .p (.bin .eql), [.tmp 68, .tmp 70], some (66, true)⟩,
    ⟨(some 72), .p .pick, [.tmp 66, .tmp 71, .lit (.bool false)], none⟩,
    ⟨(some 73), .p .move, [.tmp 72], none⟩,
    ⟨(some 74), .p (.fieldAddr 20), [.tmp 2], some (73, true)⟩,
    ⟨(some 75), .r (.load none), [.tmp 74], some (73, true)⟩,
    ⟨(some 76), .p (.fieldAddr 20), [.tmp 3], some (73, true)⟩,
    ⟨(some 77), .r (.load none), [.tmp 76], some (73, true)⟩,
    ⟨(some 78), .p (.bin .eql), [.tmp 75, .tmp 77], some (73, true)⟩,
    ⟨(some 79), .p .pick, [.tmp 73, .tmp 78, .lit (.bool false)], none⟩,
    ⟨(some 4), .p .move, [.tmp 79], none⟩])
  .ret)), [.tmp 4]⟩
theorem c14 : cFunc Go.Proofs.Tryd.prog false 2 Go.Proofs.Tryd.f14 = some sf14 := by kernel_rfl

/-- rosary/letter.Name -/
def sf15 : SFunc := ⟨1, 14, (.seq (.reg [⟨(some 2), .p .move, [.lit (.str [])], none⟩])
  (.seq (.seq (.reg [⟨(some 3), .p .move, [.tmp 0], none⟩,
    ⟨(some 4), .p (.bin .lss), [.tmp 3, .lit (.int .i64 1)], none⟩,
    ⟨(some 5), .p .move, [.tmp 4], none⟩,
    ⟨(some 6), .p .move, [.tmp 0], some (5, false)⟩,
    ⟨(some 7), .p (.bin .gtr), [.tmp 6, .lit (.int .i64 16)], some (5, false)⟩,
    ⟨(some 8), .p .pick, [.tmp 5, .lit (.bool true), .tmp 7], none⟩])
  (.cond (.tmp 8) (.seq (.reg [⟨(some 2), .p .move, [.lit (.str [])], none⟩])
  .ret)
  .skip))
  (.seq (.reg [⟨(some 9), .h (.call 36), [.lit (.str [97, 115, 107, 32, 116, 111, 108, 100, 32, 108, 111, 97, 100, 32, 108, 111, 97, 100, 115, 32, 108, 111, 99, 107, 32, 108, 111, 99, 107, 101, 100, 32, 117, 110, 108, 111, 99, 107, 32, 103, 105, 118, 101, 32, 103, 97, 118, 101, 32, 111, 102, 102, 101, 114, 32, 97, 99, 99, 101, 112, 116, 32, 99, 104, 117, 110, 107, 32, 103, 111, 116, 32, 99, 111, 109, 109, 105, 116, 32, 100, 111, 110, 101, 32, 100, 114, 111, 112])], none⟩,
    ⟨(some 10), .p .move, [.tmp 0], none⟩,
    ⟨(some 11), .p (.bin .sub), [.tmp 10, .lit (.int .i64 1)], none⟩,
    ⟨(some 12), .p (.indexAddr 1), [.tmp 9, .tmp 11], none⟩,
    ⟨(some 13), .r (.load none), [.tmp 12], none⟩,
    ⟨(some 2), .p .move, [.tmp 13], none⟩])
  .ret))), [.tmp 2]⟩
theorem c15 : cFunc Go.Proofs.Tryd.prog false 1 Go.Proofs.Tryd.f15 = some sf15 := by kernel_rfl

/-- rosary/letter.Right -/
def sf16 : SFunc := ⟨1, 72, (.seq (.reg [⟨(some 1), .a .box, [.tmp 0], none⟩,
    ⟨(some 2), .p .move, [.lit (.bool false)], none⟩])
  (.seq (.block 0 (.seq (.reg [⟨(some 4), .p (.fieldAddr 0), [.tmp 1], none⟩,
    ⟨(some 5), .r (.load none), [.tmp 4], none⟩,
    ⟨(some 6), .p (.bin .lss), [.tmp 5, .lit (.int .i64 1)], none⟩,
    ⟨(some 7), .p .move, [.tmp 6], none⟩,
    ⟨(some 8), .p (.fieldAddr 0), [.tmp 1], some (7, false)⟩,
    ⟨(some 9), .r (.load none), [.tmp 8], some (7, false)⟩,
    ⟨(some 10), .p (.bin .gtr), [.tmp 9, .lit (.int .i64 16)], some (7, false)⟩,
    ⟨(some 11), .p .pick, [.tmp 7, .lit (.bool true), .tmp 10], none⟩,
    ⟨(some 3), .p .move, [.tmp 11], none⟩])
  (.cond (.tmp 3) (.seq (.reg [⟨(some 2), .p .move, [.lit (.bool false)], none⟩])
  .ret)
  (.seq (.reg [⟨(some 13), .p (.fieldAddr 1), [.tmp 1], none⟩,
    ⟨(some 14), .r (.load none), [.tmp 13], none⟩,
    ⟨(some 15), .p (.fieldAddr 2), [.tmp 1], none⟩,
    ⟨(some 16), .r (.load none), [.tmp 15], none⟩,
    ⟨(some 17), .p (.fieldAddr 20), [.tmp 1], none⟩,
    ⟨(some 18), .r (.load none), [.tmp 17], none⟩,
    ⟨(some 19), .p (.fieldAddr 4), [.tmp 1], none⟩,
    ⟨(some 20), .p (.fieldAddr 0), [.tmp 19], none⟩,
    ⟨(some 21), .r (.load none), [.tmp 20], none⟩,
    ⟨(some 22), .p (.fieldAddr 9), [.tmp 1], none⟩,
    ⟨(some 23), .p (.fieldAddr 0), [.tmp 22], none⟩,
    ⟨(some 24), .r (.load none), [.tmp 23], none⟩,
    ⟨(some 25), .p (.fieldAddr 9), [.tmp 1], none⟩,
    ⟨(some 26), .p (.fieldAddr 5), [.tmp 25], none⟩,
    ⟨(some 27), .r (.load none), [.tmp 26], none⟩,
    ⟨(some 28), .a (.buildSlice 1 6 [(.int .i64 0)] [0, 1, 2, 3, 4, 5]), [.tmp 14, .tmp 16, .tmp 18, .tmp 21, .tmp 24, .tmp 27], none⟩,
    ⟨(some 29), .h (.call 37), [.tmp 28], none⟩,
    ⟨(some 30), .p .not, [.tmp 29], none⟩,
    ⟨(some 12), .p .move, [.tmp 30], none⟩])
  (.cond (.tmp 12) (.seq (.reg [⟨(some 2), .p .move, [.lit (.bool false)], none⟩])
  .ret)
  (.seq (.reg [⟨(some 32), .p (.fieldAddr 3), [.tmp 1], none⟩,
    ⟨(some 33), .r (.load none), [.tmp 32], none⟩,
    ⟨(some 34), .p (.fieldAddr 17), [.tmp 1], none⟩,
    ⟨(some 35), .r (.load none), [.tmp 34], none⟩,
    ⟨(some 36), .p (.fieldAddr 19), [.tmp 1], none⟩,
    ⟨(some 37), .r (.load none), [.tmp 36], none⟩,
    ⟨(some 38), .p (.fieldAddr 4), [.tmp 1], none⟩,
    ⟨(some 39), .p (.fieldAddr 4), [.tmp 38], none⟩,
    ⟨(some 40), .r (.load none), [.tmp 39], none⟩,
    ⟨(some 41), .a (.buildSlice 1 4 [(.int .i64 0)] [0, 1, 2, 3]), [.tmp 33, .tmp 35, .tmp 37, .tmp 40], none⟩,
    ⟨(some 42), .h (.call 38), [.tmp 41], none⟩,
    ⟨(some 43), .p .not, [.tmp 42], none⟩,
    ⟨(some 31), .p .move, [.tmp 43], none⟩])
  (.cond (.tmp 31) (.seq (.reg [⟨(some 2), .p .move, [.lit (.bool false)], none⟩])
  .ret)
  (.seq (.reg [⟨(some 45), .p (.fieldAddr 4), [.tmp 1], none⟩,
    ⟨(some 46), .p (.fieldAddr 1), [.tmp 45], none⟩,
    ⟨(some 47), .r (.load none), [.tmp 46], none⟩,
    ⟨(some 48), .p (.fieldAddr 4), [.tmp 1], none⟩,
    ⟨(some 49), .p (.fieldAddr 2), [.tmp 48], none⟩,
    ⟨(some 50), .r (.load none), [.tmp 49], none⟩,
    ⟨(some 51), .p (.fieldAddr 4), [.tmp 1], none⟩,
    ⟨(some 52), .p (.fieldAddr 3), [.tmp 51], none⟩,
    ⟨(some 53), .r (.load none), [.tmp 52], none⟩,
    ⟨(some 54), .p (.fieldAddr 9), [.tmp 1], none⟩,
    ⟨(some 55), .p (.fieldAddr 1), [.tmp 54], none⟩,
    ⟨(some 56), .r (.load none), [.tmp 55], none⟩,
    ⟨(some 57), .p (.fieldAddr 9), [.tmp 1], none⟩,
    ⟨(some 58), .p (.fieldAddr 4), [.tmp 57], none⟩,
    ⟨(some 59), .r (.load none), [.tmp 58], none⟩,
    ⟨(some 60), .a (.buildSlice 1 5 [(.str [])] [0, 1, 2, 3, 4]), [.tmp 47, .tmp 50, .tmp 53, .tmp 56, .tmp 59], none⟩,
    ⟨(some 61), .h (.call 39), [.tmp 60], none⟩,
    ⟨(some 62), .p .not, [.tmp 61], none⟩,
    ⟨(some 44), .p .move, [.tmp 62], none⟩])
  (.cond (.tmp 44) (.seq (.reg [⟨(some 2), .p .move, [.lit (.bool false)], none⟩])
  .ret)
  .skip)))))))))
  (.seq (.reg [⟨(some 63), .p (.fieldAddr 18), [.tmp 1], none⟩,
    ⟨(some 64), .r (.load none), [.tmp 63], none⟩,
    ⟨(some 65), .h (.call 40), [.tmp 64], none⟩,
    ⟨(some 66), .p .move, [.tmp 65], none⟩,
    ⟨(some 67), .p (.fieldAddr 9), [.tmp 1], some (66, true)⟩,
    ⟨(some 68), .p (.fieldAddr 2), [.tmp 67], some (66, true)⟩,
    ⟨(some 69), .r (.load none), [.tmp 68], some (66, true)⟩,
    ⟨(some 70), .h (.call 40), [.tmp 69], some (66, true)⟩,
    ⟨(some 71), .p .pick, [.tmp 66, .tmp 70, .lit (.bool false)], none⟩,
    ⟨(some 2), .p .move, [.tmp 71], none⟩])
  .ret))), [.tmp 2]⟩
theorem c16 : cFunc Go.Proofs.Tryd.prog false 1 Go.Proofs.Tryd.f16 = some sf16 := by kernel_rfl

/-- rosary/rosarylaw7.LetterLimits$1 -/
def sf17 : SFunc := ⟨2, 8, (.reg [⟨(some 3), .p .move, [.tmp 0], none⟩,
    ⟨(some 4), .r (.load none), [.tmp 1], none⟩,
    ⟨(some 5), .p .nilCheck, [.tmp 3], none⟩,
    ⟨(some 6), .p (.fieldAddr 4), [.tmp 5], none⟩,
    ⟨(some 7), .p (.fieldAddr 1), [.tmp 6], none⟩,
    ⟨none, .h (.store 1), [.tmp 7, .tmp 4], none⟩]), []⟩
theorem c17 : cFunc Go.Proofs.Tryd.prog false 2 Go.Proofs.Tryd.f17 = some sf17 := by kernel_rfl

/-- rosary/rosarylaw7.LetterLimits$2 -/
def sf18 : SFunc := ⟨2, 8, (.reg [⟨(some 3), .p .move, [.tmp 0], none⟩,
    ⟨(some 4), .r (.load none), [.tmp 1], none⟩,
    ⟨(some 5), .p .nilCheck, [.tmp 3], none⟩,
    ⟨(some 6), .p (.fieldAddr 9), [.tmp 5], none⟩,
    ⟨(some 7), .p (.fieldAddr 4), [.tmp 6], none⟩,
    ⟨none, .h (.store 1), [.tmp 7, .tmp 4], none⟩]), []⟩
theorem c18 : cFunc Go.Proofs.Tryd.prog false 2 Go.Proofs.Tryd.f18 = some sf18 := by kernel_rfl

/-- rosary/rosarylaw7.LetterLimits$3 -/
def sf19 : SFunc := ⟨2, 9, (.reg [⟨(some 3), .p .move, [.tmp 0], none⟩,
    ⟨(some 4), .r (.load none), [.tmp 1], none⟩,
    ⟨(some 5), .p (.build [(.str []), (.str [])] [(1, 1)]), [.tmp 4], none⟩,
    ⟨(some 6), .a (.buildSlice 2 1 [(.str []), (.str [])] [0]), [.tmp 5], none⟩,
    ⟨(some 7), .p .nilCheck, [.tmp 3], none⟩,
    ⟨(some 8), .p (.fieldAddr 18), [.tmp 7], none⟩,
    ⟨none, .h (.store 1), [.tmp 8, .tmp 6], none⟩]), []⟩
theorem c19 : cFunc Go.Proofs.Tryd.prog false 2 Go.Proofs.Tryd.f19 = some sf19 := by kernel_rfl

/-- rosary/letter.PutPacket -/
def sf20 : SFunc := ⟨1, 60, (.seq (.reg [⟨(some 1), .a .box, [.tmp 0], none⟩,
    ⟨(some 2), .p .move, [.lit (.str [])], none⟩,
    ⟨(some 3), .p .move, [.lit (.bool false)], none⟩])
  (.seq (.seq (.reg [⟨(some 7), .p (.fieldAddr 0), [.tmp 1], none⟩,
    ⟨(some 8), .r (.load none), [.tmp 7], none⟩,
    ⟨(some 9), .p (.fieldAddr 1), [.tmp 1], none⟩,
    ⟨(some 10), .r (.load none), [.tmp 9], none⟩,
    ⟨(some 11), .a (.buildSlice 1 2 [(.int .i64 0)] [0, 1]), [.tmp 8, .tmp 10], none⟩,
    ⟨(some 12), .h (.call 37), [.tmp 11], none⟩,
    ⟨(some 13), .p .not, [.tmp 12], none⟩,
    ⟨(some 14), .p .move, [.tmp 13], none⟩,
    ⟨(some 15), .p (.fieldAddr 2), [.tmp 1], some (14, false)⟩,
    ⟨(some 16), .r (.load none), [.tmp 15], some (14, false)⟩,
    ⟨(some 17), .p (.fieldAddr 3), [.tmp 1], some (14, false)⟩,
    ⟨(some 18), .r (.load none), [.tmp 17], some (14, false)⟩,
    ⟨(some 19), .a (.buildSlice 1 2 [(.int .i64 0)] [0, 1]), [.tmp 16, .tmp 18], some (14, false)⟩,
    ⟨(some 20), .h (.call 38), [.tmp 19], some (14, false)⟩,
    ⟨(some 21), .p .not, [.tmp 20], some (14, false)⟩,
    ⟨(some 22), .p .pick, [.tmp 14, .lit (.bool true), .tmp 21], none⟩,
    ⟨(some 23), .p .move, [.tmp 22], none⟩,
    ⟨(some 24), .p (.fieldAddr 2), [.tmp 1], some (23, false)⟩,
    ⟨(some 25), .r (.load none), [.tmp 24], some (23, false)⟩,
    ⟨(some 26), .p (.bin .eql), [.tmp 25, .lit (.int .i64 0)], some (23, false)⟩,
    ⟨(some 27), .p .move, [.tmp 26], some (23, false)⟩,
    ⟨(some 28), .p (.fieldAddr 4), [.tmp 1], some (27, true)⟩,
    ⟨(some 29), .r (.load (some 21)), [.tmp 28], some (27, true)⟩,
    ⟨(some 30), .h (.call 41), [.tmp 29], some (27, true)⟩,
    ⟨(some 31), .p .not, [.tmp 30], some (27, true)⟩,
    ⟨(some 32), .p .pick, [.tmp 27, .tmp 31, .lit (.bool false)], some (23, false)⟩,
    ⟨(some 33), .p .pick, [.tmp 23, .lit (.bool true), .tmp 32], none⟩])
  (.cond (.tmp 33) (.seq (.reg [⟨(some 2), .p .move, [.lit (.str [])], none⟩,
    ⟨(some 3), .p .move, [.lit (.bool false)], none⟩])
  .ret)
  .skip))
  (.seq (.reg [⟨(some 4), .a .newBld, [], none⟩])
  (.seq (.reg [⟨(some 34), .p (.fieldAddr 0), [.tmp 1], none⟩,
    ⟨(some 35), .r (.load none), [.tmp 34], none⟩,
    ⟨(some 36), .p (.fieldAddr 1), [.tmp 1], none⟩,
    ⟨(some 37), .r (.load none), [.tmp 36], none⟩,
    ⟨(some 38), .p (.fieldAddr 2), [.tmp 1], none⟩,
    ⟨(some 39), .r (.load none), [.tmp 38], none⟩,
    ⟨(some 40), .p (.fieldAddr 3), [.tmp 1], none⟩,
    ⟨(some 41), .r (.load none), [.tmp 40], none⟩,
    ⟨(some 42), .a (.buildSlice 1 4 [(.int .i64 0)] [0, 1, 2, 3]), [.tmp 35, .tmp 37, .tmp 39, .tmp 41], none⟩,
    ⟨(some 43), .h (.call 25), [.tmp 4, .tmp 42], none⟩])
  (.seq (.seq (.reg [⟨(some 44), .p (.fieldAddr 2), [.tmp 1], none⟩,
    ⟨(some 45), .r (.load none), [.tmp 44], none⟩,
    ⟨(some 46), .p (.bin .gtr), [.tmp 45, .lit (.int .i64 0)], none⟩])
  (.cond (.tmp 46) (.seq (.reg [⟨(some 48), .p (.fieldAddr 4), [.tmp 1], none⟩,
    ⟨(some 49), .r (.load (some 21)), [.tmp 48], none⟩,
    ⟨(some 50), .h (.call 12), [.tmp 49], none⟩,
    ⟨(some 47), .p .move, [.tmp 50], none⟩,
    ⟨(some 51), .p (.extract 0), [.tmp 47], none⟩,
    ⟨(some 52), .p (.extract 1), [.tmp 47], none⟩,
    ⟨(some 5), .p .move, [.tmp 51], none⟩,
    ⟨(some 6), .p .move, [.tmp 52], none⟩])
  (.seq (.seq (.reg [⟨(some 53), .p .move, [.tmp 6], none⟩,
    ⟨(some 54), .p .not, [.tmp 53], none⟩])
  (.cond (.tmp 54) (.seq (.reg [⟨(some 2), .p .move, [.lit (.str [])], none⟩,
    ⟨(some 3), .p .move, [.lit (.bool false)], none⟩])
  .ret)
  .skip))
  (.reg [⟨(some 55), .p (.fieldAddr 0), [.tmp 4], none⟩,
    ⟨(some 56), .p .move, [.tmp 5], none⟩,
    ⟨(some 57), .h (.call 26), [.tmp 55, .tmp 56], none⟩])))
  .skip))
  (.seq (.reg [⟨(some 58), .p (.fieldAddr 0), [.tmp 4], none⟩,
    ⟨(some 59), .h (.call 30), [.tmp 58], none⟩,
    ⟨(some 2), .p .move, [.tmp 59], none⟩,
    ⟨(some 3), .p .move, [.lit (.bool true)], none⟩])
  .ret)))))), [.tmp 2, .tmp 3]⟩
theorem c20 : cFunc Go.Proofs.Tryd.prog false 1 Go.Proofs.Tryd.f20 = some sf20 := by kernel_rfl

/-- rosary/rosaryref1.PutPacket -/
def sf21 : SFunc := ⟨1, 73, (.seq (.reg [⟨(some 1), .a .box, [.tmp 0], none⟩,
    ⟨(some 2), .p .move, [.lit (.str [])], none⟩,
    ⟨(some 3), .p .move, [.lit (.bool false)], none⟩])
  (.seq (.seq (.reg [⟨(some 5), .p (.fieldAddr 0), [.tmp 1], none⟩,
    ⟨(some 6), .r (.load none), [.tmp 5], none⟩,
    ⟨(some 7), .h (.call 42), [.tmp 6], none⟩,
    ⟨(some 8), .p .not, [.tmp 7], none⟩,
    ⟨(some 9), .p .move, [.tmp 8], none⟩,
    ⟨(some 10), .p (.fieldAddr 1), [.tmp 1], some (9, false)⟩,
    ⟨(some 11), .r (.load none), [.tmp 10], some (9, false)⟩,
    ⟨(some 12), .h (.call 42), [.tmp 11], some (9, false)⟩,
    ⟨(some 13), .p .not, [.tmp 12], some (9, false)⟩,
    ⟨(some 14), .p .pick, [.tmp 9, .lit (.bool true), .tmp 13], none⟩,
    ⟨(some 15), .p .move, [.tmp 14], none⟩,
    ⟨(some 16), .p (.fieldAddr 2), [.tmp 1], some (15, false)⟩,
    ⟨(some 17), .r (.load none), [.tmp 16], some (15, false)⟩,
    ⟨(some 18), .h (.call 43), [.tmp 17], some (15, false)⟩,
    ⟨(some 19), .p .not, [.tmp 18], some (15, false)⟩,
    ⟨(some 20), .p .pick, [.tmp 15, .lit (.bool true), .tmp 19], none⟩,
    ⟨(some 21), .p .move, [.tmp 20], none⟩,
    ⟨(some 22), .p (.fieldAddr 3), [.tmp 1], some (21, false)⟩,
    ⟨(some 23), .r (.load none), [.tmp 22], some (21, false)⟩,
    ⟨(some 24), .h (.call 43), [.tmp 23], some (21, false)⟩,
    ⟨(some 25), .p .not, [.tmp 24], some (21, false)⟩,
    ⟨(some 26), .p .pick, [.tmp 21, .lit (.bool true), .tmp 25], none⟩,
    ⟨(some 27), .p .move, [.tmp 26], none⟩,
    ⟨(some 28), .p (.fieldAddr 2), [.tmp 1], some (27, false)⟩,
    ⟨(some 29), .r (.load none), [.tmp 28], some (27, false)⟩,
    ⟨(some 30), .p (.bin .gtr), [.tmp 29, .lit (.int .i64 0)], some (27, false)⟩,
    ⟨(some 31), .p .move, [.tmp 30], some (27, false)⟩,
    ⟨(some 32), .p (.fieldAddr 4), [.tmp 1], some (31, true)⟩,
    ⟨(some 33), .r (.load (some 21)), [.tmp 32], some (31, true)⟩,
    ⟨(some 34), .h (.call 44), [.tmp 33], some (31, true)⟩,
    ⟨(some 35), .p .not, [.tmp 34], some (31, true)⟩,
    ⟨(some 36), .p .pick, [.tmp 31, .tmp 35, .lit (.bool false)], some (27, false)⟩,
    ⟨(some 37), .p .pick, [.tmp 27, .lit (.bool true), .tmp 36], none⟩,
    ⟨(some 38), .p .move, [.tmp 37], none⟩,
    ⟨(some 39), .p (.fieldAddr 2), [.tmp 1], some (38, false)⟩,
    ⟨(some 40), .r (.load none), [.tmp 39], some (38, false)⟩,
    ⟨(some 41), .p (.bin .eql), [.tmp 40, .lit (.int .i64 0)], some (38, false)⟩,
    ⟨(some 42), .p .move, [.tmp 41], some (38, false)⟩,
    ⟨(some 43), .p (.fieldAddr 4), [.tmp 1], some (42, true)⟩,
    ⟨(some 44), .r (.load (some 21)), [.tmp 43], some (42, true)⟩,
    ⟨(some 45), .h (.call 45), [.tmp 44], some (42, true)⟩,
    ⟨(some 46), .p .not, [.tmp 45], some (42, true)⟩,
    ⟨(some 47), .p .pick, [.tmp 42, .tmp 46, .lit (.bool false)], some (38, false)⟩,
    ⟨(some 48), .p .pick, [.tmp 38, .lit (.bool true), .tmp 47], none⟩])
  (.cond (.tmp 48) (.seq (.reg [⟨(some 2), .p .move, [.lit (.str [])], none⟩,
    ⟨(some 3), .p .move, [.lit (.bool false)], none⟩])
  .ret)
  .skip))
  (.seq (.dreg [⟨[⟨(some 49), .p (.fieldAddr 0), [.tmp 1], none⟩,
    ⟨(some 50), .r (.load none), [.tmp 49], none⟩,
    ⟨(some 52), .p (.fieldAddr 1), [.tmp 1], none⟩,
    ⟨(some 53), .r (.load none), [.tmp 52], none⟩,
    ⟨(some 56), .p (.fieldAddr 2), [.tmp 1], none⟩,
    ⟨(some 57), .r (.load none), [.tmp 56], none⟩,
    ⟨(some 60), .p (.fieldAddr 3), [.tmp 1], none⟩,
    ⟨(some 61), .r (.load none), [.tmp 60], none⟩], [], some ⟨(some 51), .h (.call 46), [.tmp 50], none⟩⟩,
   ⟨[], [⟨(some 53), .r (.load none), [.tmp 52], none⟩,
    ⟨(some 57), .r (.load none), [.tmp 56], none⟩,
    ⟨(some 61), .r (.load none), [.tmp 60], none⟩], some ⟨(some 54), .h (.call 46), [.tmp 53], none⟩⟩,
   ⟨[⟨(some 55), .p (.bin .add), [.tmp 51, .tmp 54], none⟩], [⟨(some 57), .r (.load none), [.tmp 56], none⟩,
    ⟨(some 61), .r (.load none), [.tmp 60], none⟩], some ⟨(some 58), .h (.call 46), [.tmp 57], none⟩⟩,
   ⟨[⟨(some 59), .p (.bin .add), [.tmp 55, .tmp 58], none⟩], [⟨(some 61), .r (.load none), [.tmp 60], none⟩], some ⟨(some 62), .h (.call 46), [.tmp 61], none⟩⟩,
   ⟨[⟨(some 63), .p (.bin .add), [.tmp 59, .tmp 62], none⟩,
    ⟨(some 4), .p .move, [.tmp 63], none⟩], [], none⟩])
  (.seq (.seq (.reg [⟨(some 64), .p (.fieldAddr 2), [.tmp 1], none⟩,
    ⟨(some 65), .r (.load none), [.tmp 64], none⟩,
    ⟨(some 66), .p (.bin .gtr), [.tmp 65, .lit (.int .i64 0)], none⟩])
  (.cond (.tmp 66) (.reg [⟨(some 67), .p .move, [.tmp 4], none⟩,
    ⟨(some 68), .p (.fieldAddr 4), [.tmp 1], none⟩,
    ⟨(some 69), .r (.load (some 21)), [.tmp 68], none⟩,
    ⟨(some 70), .h (.call 47), [.tmp 69], none⟩,
    ⟨(some 71), .p (.bin .add), [.tmp 67, .tmp 70], none⟩,
    ⟨(some 4), .p .move, [.tmp 71], none⟩])
  .skip))
  (.seq (.reg [⟨(some 72), .p .move, [.tmp 4], none⟩,
    ⟨(some 2), .p .move, [.tmp 72], none⟩,
    ⟨(some 3), .p .move, [.lit (.bool true)], none⟩])
  .ret))))), [.tmp 2, .tmp 3]⟩
theorem c21 : cFunc Go.Proofs.Tryd.prog false 1 Go.Proofs.Tryd.f21 = some sf21 := by kernel_rfl

/-- rosary/letter.GetPacket -/
def sf22 : SFunc := ⟨1, 47, (.seq (.reg [⟨(some 2), .a (.alloc [(.int .i64 0), (.int .i64 0), (.int .i64 0), (.int .i64 0), (.int .i64 0), (.int .i64 0), (.int .i64 0), (.int .i64 0), (.int .i64 0), (.str []), (.str []), (.str []), (.int .i64 0), (.int .i64 0), (.str []), .nilslice, (.bool false), (.str []), (.int .i64 0), (.int .u64 0), (.int .u64 0), (.int .i64 0), .nilslice, (.int .i64 0), (.int .i64 0)]), [], none⟩,
    ⟨(some 3), .p .move, [.lit (.bool false)], none⟩])
  (.seq (.reg [⟨(some 8), .p .move, [.tmp 0], none⟩,
    ⟨(some 9), .h (.call 31), [.tmp 8], none⟩,
    ⟨(some 4), .p .move, [.tmp 9], none⟩])
  (.seq (.reg [⟨(some 5), .a (.alloc [(.int .i64 0), (.int .i64 0), (.int .i64 0), (.int .i64 0), (.int .i64 0), (.int .i64 0), (.int .i64 0), (.int .i64 0), (.int .i64 0), (.str []), (.str []), (.str []), (.int .i64 0), (.int .i64 0), (.str []), .nilslice, (.bool false), (.str []), (.int .i64 0), (.int .u64 0), (.int .u64 0), (.int .i64 0), .nilslice, (.int .i64 0), (.int .i64 0)]), [], none⟩])
  (.seq (.reg [⟨(some 10), .p .move, [.tmp 4], none⟩,
    ⟨(some 11), .p (.fieldAddr 0), [.tmp 5], none⟩,
    ⟨(some 12), .p (.fieldAddr 1), [.tmp 5], none⟩,
    ⟨(some 13), .p (.fieldAddr 2), [.tmp 5], none⟩,
    ⟨(some 14), .p (.fieldAddr 3), [.tmp 5], none⟩,
    ⟨(some 15), .a (.buildSlice 1 4 [.nilptr] [0, 1, 2, 3]), [.tmp 11, .tmp 12, .tmp 13, .tmp 14], none⟩,
    ⟨(some 16), .h (.call 48), [.tmp 10, .tmp 15], none⟩])
  (.seq (.seq (.reg [⟨(some 17), .p (.fieldAddr 2), [.tmp 5], none⟩,
    ⟨(some 18), .r (.load none), [.tmp 17], none⟩,
    ⟨(some 19), .p (.bin .gtr), [.tmp 18, .lit (.int .i64 0)], none⟩,
    ⟨(some 20), .p .move, [.tmp 19], none⟩,
    ⟨(some 21), .p .move, [.tmp 4], some (20, true)⟩,
    ⟨(some 22), .h (.call 49), [.tmp 21], some (20, true)⟩,
    ⟨(some 23), .p .not, [.tmp 22], some (20, true)⟩,
    ⟨(some 24), .p .pick, [.tmp 20, .tmp 23, .lit (.bool false)], none⟩])
  (.cond (.tmp 24) (.reg [⟨(some 25), .p .move, [.tmp 4], none⟩,
    ⟨(some 26), .h (.call 32), [.tmp 25], none⟩,
    ⟨(some 27), .p (.fieldAddr 4), [.tmp 5], none⟩,
    ⟨none, .h (.store 21), [.tmp 27, .tmp 26], none⟩])
  .skip))
  (.seq (.seq (.reg [⟨(some 29), .r (.load (some 25)), [.tmp 5], none⟩,
    ⟨(some 30), .h (.call 20), [.tmp 29], none⟩,
    ⟨(some 28), .p .move, [.tmp 30], none⟩,
    ⟨(some 31), .p (.extract 0), [.tmp 28], none⟩,
    ⟨(some 32), .p (.extract 1), [.tmp 28], none⟩,
    ⟨(some 6), .p .move, [.tmp 31], none⟩,
    ⟨(some 7), .p .move, [.tmp 32], none⟩])
  (.seq (.reg [⟨(some 33), .p .move, [.tmp 4], none⟩,
    ⟨(some 34), .h (.call 33), [.tmp 33], none⟩,
    ⟨(some 35), .p .not, [.tmp 34], none⟩,
    ⟨(some 36), .p .move, [.tmp 35], none⟩,
    ⟨(some 37), .p .move, [.tmp 7], some (36, false)⟩,
    ⟨(some 38), .p .not, [.tmp 37], some (36, false)⟩,
    ⟨(some 39), .p .pick, [.tmp 36, .lit (.bool true), .tmp 38], none⟩,
    ⟨(some 40), .p .move, [.tmp 39], none⟩,
    ⟨(some 41), .p .move, [.tmp 6], some (40, false)⟩,
    ⟨(some 42), .p .move, [.tmp 0], some (40, false)⟩,
    ⟨(some 43), .p (.bin .neq), [.tmp 41, .tmp 42], some (40, false)⟩,
    ⟨(some 44), .p .pick, [.tmp 40, .lit (.bool true), .tmp 43], none⟩])
  (.cond (.tmp 44) (.seq (.reg [⟨(some 45), .p (.build [(.int .i64 0), (.int .i64 0), (.int .i64 0), (.int .i64 0), (.int .i64 0), (.int .i64 0), (.int .i64 0), (.int .i64 0), (.int .i64 0), (.str []), (.str []), (.str []), (.int .i64 0), (.int .i64 0), (.str []), .nilslice, (.bool false), (.str []), (.int .i64 0), (.int .u64 0), (.int .u64 0), (.int .i64 0), .nilslice, (.int .i64 0), (.int .i64 0)] []), [], none⟩,
    ⟨none, .h (.store 25), [.tmp 2, .tmp 45], none⟩,
    ⟨(some 3), .p .move, [.lit (.bool false)], none⟩])
  .ret)
  .skip)))
  (.seq (.reg [⟨(some 46), .r (.load (some 25)), [.tmp 5], none⟩,
    ⟨none, .h (.store 25), [.tmp 2, .tmp 46], none⟩,
    ⟨(some 3), .p .move, [.lit (.bool true)], none⟩])
  .ret))))))), [.cell 2 (some 25), .tmp 3]⟩
theorem c22 : cFunc Go.Proofs.Tryd.prog false 1 Go.Proofs.Tryd.f22 = some sf22 := by kernel_rfl

/-- rosary/rosaryref1.GetPacket -/
def sf23 : SFunc := ⟨1, 63, (.seq (.reg [⟨(some 2), .a (.alloc [(.int .i64 0), (.int .i64 0), (.int .i64 0), (.int .i64 0), (.int .i64 0), (.int .i64 0), (.int .i64 0), (.int .i64 0), (.int .i64 0), (.str []), (.str []), (.str []), (.int .i64 0), (.int .i64 0), (.str []), .nilslice, (.bool false), (.str []), (.int .i64 0), (.int .u64 0), (.int .u64 0), (.int .i64 0), .nilslice, (.int .i64 0), (.int .i64 0)]), [], none⟩,
    ⟨(some 3), .p .move, [.lit (.bool false)], none⟩])
  (.seq (.reg [⟨(some 10), .p .move, [.tmp 0], none⟩,
    ⟨(some 11), .p (.build [(.str []), (.bool false)] [(0, 1)]), [.tmp 10], none⟩,
    ⟨(some 12), .a .box, [.tmp 11], none⟩,
    ⟨(some 4), .p .move, [.tmp 12], none⟩])
  (.seq (.reg [⟨(some 13), .p .move, [.tmp 4], none⟩,
    ⟨(some 14), .h (.call 50), [.tmp 13], none⟩,
    ⟨(some 15), .p .move, [.tmp 4], none⟩,
    ⟨(some 16), .h (.call 50), [.tmp 15], none⟩,
    ⟨(some 17), .p .move, [.tmp 4], none⟩,
    ⟨(some 18), .h (.call 50), [.tmp 17], none⟩,
    ⟨(some 19), .p .move, [.tmp 4], none⟩,
    ⟨(some 20), .h (.call 50), [.tmp 19], none⟩,
    ⟨(some 21), .p (.build [(.int .i64 0), (.int .i64 0), (.int .i64 0), (.int .i64 0), (.int .i64 0), (.int .i64 0), (.int .i64 0), (.int .i64 0), (.int .i64 0), (.str []), (.str []), (.str []), (.int .i64 0), (.int .i64 0), (.str []), .nilslice, (.bool false), (.str []), (.int .i64 0), (.int .u64 0), (.int .u64 0), (.int .i64 0), .nilslice, (.int .i64 0), (.int .i64 0)] [(0, 1), (1, 1), (2, 1), (3, 1)]), [.tmp 14, .tmp 16, .tmp 18, .tmp 20], none⟩,
    ⟨(some 5), .a (.alloc [(.int .i64 0), (.int .i64 0), (.int .i64 0), (.int .i64 0), (.int .i64 0), (.int .i64 0), (.int .i64 0), (.int .i64 0), (.int .i64 0), (.str []), (.str []), (.str []), (.int .i64 0), (.int .i64 0), (.str []), .nilslice, (.bool false), (.str []), (.int .i64 0), (.int .u64 0), (.int .u64 0), (.int .i64 0), .nilslice, (.int .i64 0), (.int .i64 0)]), [], none⟩,
    ⟨none, .h (.store 25), [.tmp 5, .tmp 21], none⟩])
  (.seq (.seq (.reg [⟨(some 22), .p .move, [.tmp 4], none⟩,
    ⟨(some 23), .p .nilCheck, [.tmp 22], none⟩,
    ⟨(some 24), .p (.fieldAddr 1), [.tmp 23], none⟩,
    ⟨(some 25), .r (.load none), [.tmp 24], none⟩])
  (.cond (.tmp 25) (.seq (.reg [⟨(some 26), .p (.build [(.int .i64 0), (.int .i64 0), (.int .i64 0), (.int .i64 0), (.int .i64 0), (.int .i64 0), (.int .i64 0), (.int .i64 0), (.int .i64 0), (.str []), (.str []), (.str []), (.int .i64 0), (.int .i64 0), (.str []), .nilslice, (.bool false), (.str []), (.int .i64 0), (.int .u64 0), (.int .u64 0), (.int .i64 0), .nilslice, (.int .i64 0), (.int .i64 0)] []), [], none⟩,
    ⟨none, .h (.store 25), [.tmp 2, .tmp 26], none⟩,
    ⟨(some 3), .p .move, [.lit (.bool false)], none⟩])
  .ret)
  .skip))
  (.seq (.seq (.reg [⟨(some 27), .p (.fieldAddr 2), [.tmp 5], none⟩,
    ⟨(some 28), .r (.load none), [.tmp 27], none⟩,
    ⟨(some 29), .p (.bin .gtr), [.tmp 28, .lit (.int .i64 0)], none⟩])
  (.cond (.tmp 29) (.seq (.reg [⟨(some 31), .p .move, [.tmp 4], none⟩,
    ⟨(some 32), .p .nilCheck, [.tmp 31], none⟩,
    ⟨(some 33), .p (.fieldAddr 0), [.tmp 32], none⟩,
    ⟨(some 34), .r (.load none), [.tmp 33], none⟩,
    ⟨(some 35), .h (.call 51), [.tmp 34], none⟩,
    ⟨(some 30), .p .move, [.tmp 35], none⟩,
    ⟨(some 36), .p (.extract 0), [.tmp 30], none⟩,
    ⟨(some 37), .p (.extract 1), [.tmp 30], none⟩,
    ⟨(some 6), .a (.alloc [(.int .i64 0), (.int .i64 0), (.int .i64 0), (.int .i64 0), (.int .i64 0), (.str []), (.str []), (.str []), (.int .i64 0), (.int .i64 0), (.str []), .nilslice, (.bool false), (.str []), (.int .i64 0), (.int .u64 0), (.int .u64 0), (.int .i64 0), .nilslice, (.int .i64 0), (.int .i64 0)]), [], none⟩,
    ⟨none, .h (.store 21), [.tmp 6, .tmp 36], none⟩,
    ⟨(some 7), .p .move, [.tmp 37], none⟩])
  (.seq (.seq (.reg [⟨(some 38), .p .move, [.tmp 7], none⟩,
    ⟨(some 39), .p .not, [.tmp 38], none⟩])
  (.cond (.tmp 39) (.seq (.reg [⟨(some 40), .p (.build [(.int .i64 0), (.int .i64 0), (.int .i64 0), (.int .i64 0), (.int .i64 0), (.int .i64 0), (.int .i64 0), (.int .i64 0), (.int .i64 0), (.str []), (.str []), (.str []), (.int .i64 0), (.int .i64 0), (.str []), .nilslice, (.bool false), (.str []), (.int .i64 0), (.int .u64 0), (.int .u64 0), (.int .i64 0), .nilslice, (.int .i64 0), (.int .i64 0)] []), [], none⟩,
    ⟨none, .h (.store 25), [.tmp 2, .tmp 40], none⟩,
    ⟨(some 3), .p .move, [.lit (.bool false)], none⟩])
  .ret)
  .skip))
  (.reg [⟨(some 41), .r (.load (some 21)), [.tmp 6], none⟩,
    ⟨(some 42), .p (.fieldAddr 4), [.tmp 5], none⟩,
    ⟨none, .h (.store 21), [.tmp 42, .tmp 41], none⟩])))
  (.seq (.reg [⟨(some 43), .p .move, [.tmp 4], none⟩,
    ⟨(some 44), .p .nilCheck, [.tmp 43], none⟩,
    ⟨(some 45), .p (.fieldAddr 0), [.tmp 44], none⟩,
    ⟨(some 46), .r (.load none), [.tmp 45], none⟩,
    ⟨(some 47), .p (.bin .neq), [.tmp 46, .lit (.str [])], none⟩])
  (.cond (.tmp 47) (.seq (.reg [⟨(some 48), .p (.build [(.int .i64 0), (.int .i64 0), (.int .i64 0), (.int .i64 0), (.int .i64 0), (.int .i64 0), (.int .i64 0), (.int .i64 0), (.int .i64 0), (.str []), (.str []), (.str []), (.int .i64 0), (.int .i64 0), (.str []), .nilslice, (.bool false), (.str []), (.int .i64 0), (.int .u64 0), (.int .u64 0), (.int .i64 0), .nilslice, (.int .i64 0), (.int .i64 0)] []), [], none⟩,
    ⟨none, .h (.store 25), [.tmp 2, .tmp 48], none⟩,
    ⟨(some 3), .p .move, [.lit (.bool false)], none⟩])
  .ret)
  .skip))))
  (.seq (.reg [⟨(some 50), .r (.load (some 25)), [.tmp 5], none⟩,
    ⟨(some 51), .h (.call 21), [.tmp 50], none⟩,
    ⟨(some 49), .p .move, [.tmp 51], none⟩,
    ⟨(some 52), .p (.extract 0), [.tmp 49], none⟩,
    ⟨(some 53), .p (.extract 1), [.tmp 49], none⟩,
    ⟨(some 8), .p .move, [.tmp 52], none⟩,
    ⟨(some 9), .p .move, [.tmp 53], none⟩])
  (.seq (.seq (.reg [⟨(some 54), .p .move, [.tmp 9], none⟩,
    ⟨(some 55), .p .not, [.tmp 54], none⟩,
    ⟨(some 56), .p .move, [.tmp 55], none⟩,
    ⟨(some 57), .p .move, [.tmp 8], some (56, false)⟩,
    ⟨(some 58), .p .move, [.tmp 0], some (56, false)⟩,
    ⟨(some 59), .p (.bin .neq), [.tmp 57, .tmp 58], some (56, false)⟩,
    ⟨(some 60), .p .pick, [.tmp 56, .lit (.bool true), .tmp 59], none⟩])
  (.cond (.tmp 60) (.seq (.reg [⟨(some 61), .p (.build [(.int .i64 0), (.int .i64 0), (.int .i64 0), (.int .i64 0), (.int .i64 0), (.int .i64 0), (.int .i64 0), (.int .i64 0), (.int .i64 0), (.str []), (.str []), (.str []), (.int .i64 0), (.int .i64 0), (.str []), .nilslice, (.bool false), (.str []), (.int .i64 0), (.int .u64 0), (.int .u64 0), (.int .i64 0), .nilslice, (.int .i64 0), (.int .i64 0)] []), [], none⟩,
    ⟨none, .h (.store 25), [.tmp 2, .tmp 61], none⟩,
    ⟨(some 3), .p .move, [.lit (.bool false)], none⟩])
  .ret)
  .skip))
  (.seq (.reg [⟨(some 62), .r (.load (some 25)), [.tmp 5], none⟩,
    ⟨none, .h (.store 25), [.tmp 2, .tmp 62], none⟩,
    ⟨(some 3), .p .move, [.lit (.bool true)], none⟩])
  .ret)))))))), [.cell 2 (some 25), .tmp 3]⟩
theorem c23 : cFunc Go.Proofs.Tryd.prog false 1 Go.Proofs.Tryd.f23 = some sf23 := by kernel_rfl

/-- rosary/rosarybook.SamePacket -/
def sf24 : SFunc := ⟨2, 38, (.seq (.reg [⟨(some 2), .a .box, [.tmp 0], none⟩,
    ⟨(some 3), .a .box, [.tmp 1], none⟩,
    ⟨(some 4), .p .move, [.lit (.bool false)], none⟩])
  (.seq (.reg [⟨(some 5), .p (.fieldAddr 0), [.tmp 2], none⟩,
    ⟨(some 6), .r (.load none), [.tmp 5], none⟩,
    ⟨(some 7), .p (.fieldAddr 0), [.tmp 3], none⟩,
    ⟨(some 8), .r (.load none), [.tmp 7], none⟩,
    ⟨(some 9), .p (.bin .eql), [.tmp 6, .tmp 8], none⟩,
    ⟨(some 10), .p .move, [.tmp 9], none⟩,
    ⟨(some 11), .p (.fieldAddr 1), [.tmp 2], some (10, true)⟩,
    ⟨(some 12), .r (.load none), [.tmp 11], some (10, true)⟩,
    ⟨(some 13), .p (.fieldAddr 1), [.tmp 3], some (10, true)⟩,
    ⟨(some 14), .r (.load none), [.tmp 13], some (10, true)⟩,
    ⟨(some 15), .p (.bin .eql), [.tmp 12, .tmp 14], some (10, true)⟩,
    ⟨(some 16), .p .pick, [.tmp 10, .tmp 15, .lit (.bool false)], none⟩,
    ⟨(some 17), .p .move, [.tmp 16], none⟩,
    ⟨(some 18), .p (.fieldAddr 2), [.tmp 2], some (17, true)⟩,
    ⟨(some 19), .r (.load none), [.tmp 18], some (17, true)⟩,
    ⟨(some 20), .p (.fieldAddr 2), [.tmp 3], some (17, true)⟩,
    ⟨(some 21), .r (.load none), [.tmp 20], some (17, true)⟩,
    ⟨(some 22), .p (.bin .eql), [.tmp 19, .tmp 21], some (17, true)⟩,
    ⟨(some 23), .p .pick, [.tmp 17, .tmp 22, .lit (.bool false)], none⟩,
    ⟨(some 24), .p .move, [.tmp 23], none⟩,
    ⟨(some 25), .p (.fieldAddr 3), [.tmp 2], some (24, true)⟩,
    ⟨(some 26), .r (.load none), [.tmp 25], some (24, true)⟩,
    ⟨(some 27), .p (.fieldAddr 3), [.tmp 3], some (24, true)⟩,
    ⟨(some 28), .r (.load none), [.tmp 27], some (24, true)⟩,
    ⟨(some 29), .p (.bin .eql), [.tmp 26, .tmp 28], some (24, true)⟩,
    ⟨(some 30), .p .pick, [.tmp 24, .tmp 29, .lit (.bool false)], none⟩,
    ⟨(some 31), .p .move, [.tmp 30], none⟩,
    ⟨(some 32), .p (.fieldAddr 4), [.tmp 2], some (31, true)⟩,
    ⟨(some 33), .r (.load (some 21)), [.tmp 32], some (31, true)⟩,
    ⟨(some 34), .p (.fieldAddr 4), [.tmp 3], some (31, true)⟩,
    ⟨(some 35), .r (.load (some 21)), [.tmp 34], some (31, true)⟩,
    ⟨(some 36), .h (.call 14), [.tmp 33, .tmp 35], some (31, true)⟩,
    ⟨(some 37), .p .pick, [.tmp 31, .tmp 36, .lit (.bool false)], none⟩,
    ⟨(some 4), .p .move, [.tmp 37], none⟩])
  .ret)), [.tmp 4]⟩
theorem c24 : cFunc Go.Proofs.Tryd.prog false 2 Go.Proofs.Tryd.f24 = some sf24 := by kernel_rfl

/-- (*rosary/letter.writer).nums -/
def sf25 : SFunc := ⟨2, 25, (.seq (.reg [⟨(some 8), .p .move, [.tmp 1], none⟩,
    ⟨(some 9), .p .lenSl, [.tmp 8], none⟩,
    ⟨(some 10), .p .move, [.lit (.int .i64 0)], none⟩])
  (.block 0 (.loop [0, 8, 9, 10] (.seq (.reg [⟨(some 11), .p (.bin .lss), [.tmp 10, .tmp 9], none⟩])
  (.seq (.cond (.tmp 11) .skip
  (.exit 0))
  (.seq (.block 1 (.seq (.reg [⟨(some 12), .p (.indexAddr 1), [.tmp 8, .tmp 10], none⟩,
    ⟨(some 13), .r (.load none), [.tmp 12], none⟩,
    ⟨(some 5), .p .move, [.tmp 13], none⟩])
  (.seq (.reg [⟨(some 15), .p .move, [.tmp 5], none⟩,
    ⟨(some 16), .h (.call 52), [.tmp 15], none⟩,
    ⟨(some 14), .p .move, [.tmp 16], none⟩,
    ⟨(some 17), .p (.extract 0), [.tmp 14], none⟩,
    ⟨(some 18), .p (.extract 1), [.tmp 14], none⟩,
    ⟨(some 6), .p .move, [.tmp 17], none⟩,
    ⟨(some 7), .p .move, [.tmp 18], none⟩])
  (.reg [⟨(some 19), .p .move, [.tmp 0], none⟩,
    ⟨(some 20), .p .nilCheck, [.tmp 19], none⟩,
    ⟨(some 21), .p (.fieldAddr 0), [.tmp 20], none⟩,
    ⟨(some 22), .p .move, [.tmp 6], none⟩,
    ⟨(some 23), .h (.call 26), [.tmp 21, .tmp 22], none⟩]))))
  (.reg [⟨(some 24), .p (.bin .add), [.tmp 10, .lit (.int .i64 1)], none⟩,
    ⟨(some 10), .p .move, [.tmp 24], none⟩]))))))), []⟩
theorem c25 : cFunc Go.Proofs.Tryd.prog false 2 Go.Proofs.Tryd.f25 = some sf25 := by kernel_rfl

/-- (*strings.Builder).WriteString -/
def sf26 : SFunc := ⟨2, 19, (.seq (.reg [⟨(some 4), .p .move, [.lit (.int .i64 0)], none⟩,
    ⟨(some 5), .p .move, [.lit .undef], none⟩])
  (.seq (.reg [⟨(some 6), .p .move, [.tmp 0], none⟩,
    ⟨(some 7), .h (.call 53), [.tmp 6], none⟩])
  (.seq (.reg [⟨(some 8), .p .move, [.tmp 0], none⟩,
    ⟨(some 9), .p .move, [.tmp 0], none⟩,
    ⟨(some 10), .p .nilCheck, [.tmp 9], none⟩,
    ⟨(some 11), .p (.fieldAddr 1), [.tmp 10], none⟩,
    ⟨(some 12), .r (.load none), [.tmp 11], none⟩,
    ⟨(some 13), .p .move, [.tmp 1], none⟩,
    ⟨(some 14), .h (.appendStr false), [.tmp 12, .tmp 13], none⟩,
    ⟨(some 15), .p .nilCheck, [.tmp 8], none⟩,
    ⟨(some 16), .p (.fieldAddr 1), [.tmp 15], none⟩,
    ⟨none, .h (.store 1), [.tmp 16, .tmp 14], none⟩])
  (.seq (.reg [⟨(some 17), .p .move, [.tmp 1], none⟩,
    ⟨(some 18), .p .lenStr, [.tmp 17], none⟩,
    ⟨(some 4), .p .move, [.tmp 18], none⟩,
    ⟨(some 5), .p .move, [.lit .undef], none⟩])
  .ret)))), [.tmp 4, .tmp 5]⟩
theorem c26 : cFunc Go.Proofs.Tryd.prog false 2 Go.Proofs.Tryd.f26 = some sf26 := by kernel_rfl

/-- rosary/pack.Wide -/
def sf27 : SFunc := ⟨1, 5, (.seq (.reg [⟨(some 2), .p .move, [.lit (.str [])], none⟩])
  (.seq (.reg [⟨(some 3), .p .move, [.tmp 0], none⟩,
    ⟨(some 4), .h (.call 54), [.tmp 3, .lit (.int .i64 8)], none⟩,
    ⟨(some 2), .p .move, [.tmp 4], none⟩])
  .ret)), [.tmp 2]⟩
theorem c27 : cFunc Go.Proofs.Tryd.prog false 1 Go.Proofs.Tryd.f27 = some sf27 := by kernel_rfl

/-- (*rosary/letter.writer).items -/
def sf28 : SFunc := ⟨2, 25, (.seq (.reg [⟨(some 6), .p .move, [.tmp 0], none⟩,
    ⟨(some 7), .p .move, [.tmp 1], none⟩,
    ⟨(some 8), .p .lenSl, [.tmp 7], none⟩,
    ⟨(some 9), .a (.buildSlice 1 1 [(.int .i64 0)] [0]), [.tmp 8], none⟩,
    ⟨(some 10), .h (.call 25), [.tmp 6, .tmp 9], none⟩])
  (.seq (.reg [⟨(some 11), .p .move, [.tmp 1], none⟩,
    ⟨(some 12), .p .lenSl, [.tmp 11], none⟩,
    ⟨(some 13), .p .move, [.lit (.int .i64 0)], none⟩])
  (.block 0 (.loop [0, 11, 12, 13] (.seq (.reg [⟨(some 14), .p (.bin .lss), [.tmp 13, .tmp 12], none⟩])
  (.seq (.cond (.tmp 14) .skip
  (.exit 0))
  (.seq (.block 1 (.seq (.reg [⟨(some 15), .p (.indexAddr 2), [.tmp 11, .tmp 13], none⟩,
    ⟨(some 16), .r (.load (some 2)), [.tmp 15], none⟩,
    ⟨(some 5), .a (.alloc [(.str []), (.str [])]), [], none⟩,
    ⟨none, .h (.store 2), [.tmp 5, .tmp 16], none⟩])
  (.reg [⟨(some 17), .p .move, [.tmp 0], none⟩,
    ⟨(some 18), .p (.fieldAddr 0), [.tmp 5], none⟩,
    ⟨(some 19), .r (.load none), [.tmp 18], none⟩,
    ⟨(some 20), .p (.fieldAddr 1), [.tmp 5], none⟩,
    ⟨(some 21), .r (.load none), [.tmp 20], none⟩,
    ⟨(some 22), .a (.buildSlice 1 2 [(.str [])] [0, 1]), [.tmp 19, .tmp 21], none⟩,
    ⟨(some 23), .h (.call 29), [.tmp 17, .tmp 22], none⟩])))
  (.reg [⟨(some 24), .p (.bin .add), [.tmp 13, .lit (.int .i64 1)], none⟩,
    ⟨(some 13), .p .move, [.tmp 24], none⟩])))))))), []⟩
theorem c28 : cFunc Go.Proofs.Tryd.prog false 2 Go.Proofs.Tryd.f28 = some sf28 := by kernel_rfl

/-- (*rosary/letter.writer).texts -/
def sf29 : SFunc := ⟨2, 25, (.seq (.reg [⟨(some 8), .p .move, [.tmp 1], none⟩,
    ⟨(some 9), .p .lenSl, [.tmp 8], none⟩,
    ⟨(some 10), .p .move, [.lit (.int .i64 0)], none⟩])
  (.block 0 (.loop [0, 8, 9, 10] (.seq (.reg [⟨(some 11), .p (.bin .lss), [.tmp 10, .tmp 9], none⟩])
  (.seq (.cond (.tmp 11) .skip
  (.exit 0))
  (.seq (.block 1 (.seq (.reg [⟨(some 12), .p (.indexAddr 1), [.tmp 8, .tmp 10], none⟩,
    ⟨(some 13), .r (.load none), [.tmp 12], none⟩,
    ⟨(some 5), .p .move, [.tmp 13], none⟩])
  (.seq (.reg [⟨(some 15), .p .move, [.tmp 5], none⟩,
    ⟨(some 16), .h (.call 55), [.tmp 15], none⟩,
    ⟨(some 14), .p .move, [.tmp 16], none⟩,
    ⟨(some 17), .p (.extract 0), [.tmp 14], none⟩,
    ⟨(some 18), .p (.extract 1), [.tmp 14], none⟩,
    ⟨(some 6), .p .move, [.tmp 17], none⟩,
    ⟨(some 7), .p .move, [.tmp 18], none⟩])
  (.reg [⟨(some 19), .p .move, [.tmp 0], none⟩,
    ⟨(some 20), .p .nilCheck, [.tmp 19], none⟩,
    ⟨(some 21), .p (.fieldAddr 0), [.tmp 20], none⟩,
    ⟨(some 22), .p .move, [.tmp 6], none⟩,
    ⟨(some 23), .h (.call 26), [.tmp 21, .tmp 22], none⟩]))))
  (.reg [⟨(some 24), .p (.bin .add), [.tmp 10, .lit (.int .i64 1)], none⟩,
    ⟨(some 10), .p .move, [.tmp 24], none⟩]))))))), []⟩
theorem c29 : cFunc Go.Proofs.Tryd.prog false 2 Go.Proofs.Tryd.f29 = some sf29 := by kernel_rfl

/-- rosary/pack.From -/
def sf31 : SFunc := ⟨1, 6, (.seq (.reg [⟨(some 2), .p .move, [.lit .nilptr], none⟩])
  (.seq (.reg [⟨(some 3), .p .move, [.tmp 0], none⟩,
    ⟨(some 4), .p (.build [(.str []), (.bool false)] [(0, 1)]), [.tmp 3], none⟩,
    ⟨(some 5), .a .box, [.tmp 4], none⟩,
    ⟨(some 2), .p .move, [.tmp 5], none⟩])
  .ret)), [.tmp 2]⟩
theorem c31 : cFunc Go.Proofs.Tryd.prog false 1 Go.Proofs.Tryd.f31 = some sf31 := by kernel_rfl

/-- rosary/letter.read -/
def sf32 : SFunc := ⟨1, 74, (.seq (.reg [⟨(some 2), .a (.alloc [(.int .i64 0), (.int .i64 0), (.int .i64 0), (.int .i64 0), (.int .i64 0), (.str []), (.str []), (.str []), (.int .i64 0), (.int .i64 0), (.str []), .nilslice, (.bool false), (.str []), (.int .i64 0), (.int .u64 0), (.int .u64 0), (.int .i64 0), .nilslice, (.int .i64 0), (.int .i64 0)]), [], none⟩])
  (.seq (.reg [⟨(some 3), .a (.alloc [(.int .i64 0), (.int .i64 0), (.int .i64 0), (.int .i64 0), (.int .i64 0), (.str []), (.str []), (.str []), (.int .i64 0), (.int .i64 0), (.str []), .nilslice, (.bool false), (.str []), (.int .i64 0), (.int .u64 0), (.int .u64 0), (.int .i64 0), .nilslice, (.int .i64 0), (.int .i64 0)]), [], none⟩])
  (.seq (.reg [⟨(some 4), .p .move, [.tmp 0], none⟩,
    ⟨(some 5), .p (.fieldAddr 0), [.tmp 3], none⟩,
    ⟨(some 6), .p (.fieldAddr 1), [.tmp 3], none⟩,
    ⟨(some 7), .p (.fieldAddr 2), [.tmp 3], none⟩,
    ⟨(some 8), .p (.fieldAddr 3), [.tmp 3], none⟩,
    ⟨(some 9), .p (.fieldAddr 17), [.tmp 3], none⟩,
    ⟨(some 10), .p (.fieldAddr 19), [.tmp 3], none⟩,
    ⟨(some 11), .p (.fieldAddr 20), [.tmp 3], none⟩,
    ⟨(some 12), .a (.buildSlice 1 7 [.nilptr] [0, 1, 2, 3, 4, 5, 6]), [.tmp 5, .tmp 6, .tmp 7, .tmp 8, .tmp 9, .tmp 10, .tmp 11], none⟩,
    ⟨(some 13), .h (.call 48), [.tmp 4, .tmp 12], none⟩])
  (.seq (.reg [⟨(some 14), .p .move, [.tmp 0], none⟩,
    ⟨(some 15), .h (.call 56), [.tmp 14], none⟩,
    ⟨(some 16), .p (.fieldAddr 15), [.tmp 3], none⟩,
    ⟨(some 17), .p (.fieldAddr 0), [.tmp 16], none⟩,
    ⟨none, .h (.store 1), [.tmp 17, .tmp 15], none⟩])
  (.seq (.reg [⟨(some 18), .p .move, [.tmp 0], none⟩,
    ⟨(some 19), .h (.call 56), [.tmp 18], none⟩,
    ⟨(some 20), .p (.fieldAddr 15), [.tmp 3], none⟩,
    ⟨(some 21), .p (.fieldAddr 1), [.tmp 20], none⟩,
    ⟨none, .h (.store 1), [.tmp 21, .tmp 19], none⟩])
  (.seq (.reg [⟨(some 22), .p .move, [.tmp 0], none⟩,
    ⟨(some 23), .h (.call 57), [.tmp 22], none⟩,
    ⟨(some 24), .p (.fieldAddr 18), [.tmp 3], none⟩,
    ⟨none, .h (.store 1), [.tmp 24, .tmp 23], none⟩])
  (.seq (.reg [⟨(some 25), .p .move, [.tmp 0], none⟩,
    ⟨(some 26), .p (.fieldAddr 4), [.tmp 3], none⟩,
    ⟨(some 27), .p (.fieldAddr 0), [.tmp 26], none⟩,
    ⟨(some 28), .a (.buildSlice 1 1 [.nilptr] [0]), [.tmp 27], none⟩,
    ⟨(some 29), .h (.call 48), [.tmp 25, .tmp 28], none⟩])
  (.seq (.reg [⟨(some 30), .p .move, [.tmp 0], none⟩,
    ⟨(some 31), .h (.call 58), [.tmp 30], none⟩,
    ⟨(some 32), .p (.fieldAddr 4), [.tmp 3], none⟩,
    ⟨(some 33), .p (.fieldAddr 1), [.tmp 32], none⟩,
    ⟨none, .h (.store 1), [.tmp 33, .tmp 31], none⟩])
  (.seq (.reg [⟨(some 34), .p .move, [.tmp 0], none⟩,
    ⟨(some 35), .h (.call 58), [.tmp 34], none⟩,
    ⟨(some 36), .p (.fieldAddr 4), [.tmp 3], none⟩,
    ⟨(some 37), .p (.fieldAddr 2), [.tmp 36], none⟩,
    ⟨none, .h (.store 1), [.tmp 37, .tmp 35], none⟩])
  (.seq (.reg [⟨(some 38), .p .move, [.tmp 0], none⟩,
    ⟨(some 39), .h (.call 58), [.tmp 38], none⟩,
    ⟨(some 40), .p (.fieldAddr 4), [.tmp 3], none⟩,
    ⟨(some 41), .p (.fieldAddr 3), [.tmp 40], none⟩,
    ⟨none, .h (.store 1), [.tmp 41, .tmp 39], none⟩])
  (.seq (.reg [⟨(some 42), .p .move, [.tmp 0], none⟩,
    ⟨(some 43), .p (.fieldAddr 4), [.tmp 3], none⟩,
    ⟨(some 44), .p (.fieldAddr 4), [.tmp 43], none⟩,
    ⟨(some 45), .a (.buildSlice 1 1 [.nilptr] [0]), [.tmp 44], none⟩,
    ⟨(some 46), .h (.call 48), [.tmp 42, .tmp 45], none⟩])
  (.seq (.reg [⟨(some 47), .p .move, [.tmp 0], none⟩,
    ⟨(some 48), .h (.call 59), [.tmp 47], none⟩,
    ⟨(some 49), .p (.fieldAddr 9), [.tmp 3], none⟩,
    ⟨(some 50), .p (.fieldAddr 0), [.tmp 49], none⟩,
    ⟨none, .h (.store 1), [.tmp 50, .tmp 48], none⟩])
  (.seq (.reg [⟨(some 51), .p .move, [.tmp 0], none⟩,
    ⟨(some 52), .h (.call 58), [.tmp 51], none⟩,
    ⟨(some 53), .p (.fieldAddr 9), [.tmp 3], none⟩,
    ⟨(some 54), .p (.fieldAddr 1), [.tmp 53], none⟩,
    ⟨none, .h (.store 1), [.tmp 54, .tmp 52], none⟩])
  (.seq (.reg [⟨(some 55), .p .move, [.tmp 0], none⟩,
    ⟨(some 56), .h (.call 57), [.tmp 55], none⟩,
    ⟨(some 57), .p (.fieldAddr 9), [.tmp 3], none⟩,
    ⟨(some 58), .p (.fieldAddr 2), [.tmp 57], none⟩,
    ⟨none, .h (.store 1), [.tmp 58, .tmp 56], none⟩])
  (.seq (.reg [⟨(some 59), .p .move, [.tmp 0], none⟩,
    ⟨(some 60), .h (.call 59), [.tmp 59], none⟩,
    ⟨(some 61), .p (.bin .eql), [.tmp 60, .lit (.int .i64 1)], none⟩,
    ⟨(some 62), .p (.fieldAddr 9), [.tmp 3], none⟩,
    ⟨(some 63), .p (.fieldAddr 3), [.tmp 62], none⟩,
    ⟨none, .h (.store 1), [.tmp 63, .tmp 61], none⟩])
  (.seq (.reg [⟨(some 64), .p .move, [.tmp 0], none⟩,
    ⟨(some 65), .h (.call 58), [.tmp 64], none⟩,
    ⟨(some 66), .p (.fieldAddr 9), [.tmp 3], none⟩,
    ⟨(some 67), .p (.fieldAddr 4), [.tmp 66], none⟩,
    ⟨none, .h (.store 1), [.tmp 67, .tmp 65], none⟩])
  (.seq (.reg [⟨(some 68), .p .move, [.tmp 0], none⟩,
    ⟨(some 69), .p (.fieldAddr 9), [.tmp 3], none⟩,
    ⟨(some 70), .p (.fieldAddr 5), [.tmp 69], none⟩,
    ⟨(some 71), .a (.buildSlice 1 1 [.nilptr] [0]), [.tmp 70], none⟩,
    ⟨(some 72), .h (.call 48), [.tmp 68, .tmp 71], none⟩])
  (.seq (.reg [⟨(some 73), .r (.load (some 21)), [.tmp 3], none⟩,
    ⟨none, .h (.store 21), [.tmp 2, .tmp 73], none⟩])
  .ret)))))))))))))))))), [.cell 2 (some 21)]⟩
theorem c32 : cFunc Go.Proofs.Tryd.prog false 1 Go.Proofs.Tryd.f32 = some sf32 := by kernel_rfl

/-- (*rosary/pack.Reader).End -/
def sf33 : SFunc := ⟨1, 13, (.seq (.reg [⟨(some 2), .p .move, [.lit (.bool false)], none⟩])
  (.seq (.reg [⟨(some 3), .p .move, [.tmp 0], none⟩,
    ⟨(some 4), .h (.call 49), [.tmp 3], none⟩,
    ⟨(some 5), .p .not, [.tmp 4], none⟩,
    ⟨(some 6), .p .move, [.tmp 5], none⟩,
    ⟨(some 7), .p .move, [.tmp 0], some (6, true)⟩,
    ⟨(some 8), .p .nilCheck, [.tmp 7], some (6, true)⟩,
    ⟨(some 9), .p (.fieldAddr 0), [.tmp 8], some (6, true)⟩,
    ⟨(some 10), .r (.load none), [.tmp 9], some (6, true)⟩,
    ⟨(some 11), .p (.bin .eql), [.tmp 10, .lit (.str [])], some (6, true)⟩,
    ⟨(some 12), .p .pick, [.tmp 6, .tmp 11, .lit (.bool false)], none⟩,
    ⟨(some 2), .p .move, [.tmp 12], none⟩])
  .ret)), [.tmp 2]⟩
theorem c33 : cFunc Go.Proofs.Tryd.prog false 1 Go.Proofs.Tryd.f33 = some sf33 := by kernel_rfl

/-- rosary/rosarybook.SameTold -/
def sf34 : SFunc := ⟨2, 45, (.seq (.reg [⟨(some 2), .a .box, [.tmp 0], none⟩,
    ⟨(some 3), .a .box, [.tmp 1], none⟩,
    ⟨(some 4), .p .move, [.lit (.bool false)], none⟩])
  (.seq (.reg [⟨(some 5), .p (.fieldAddr 0), [.tmp 2], none⟩,
    ⟨(some 6), .r (.load none), [.tmp 5], none⟩,
    ⟨(some 7), .p (.fieldAddr 0), [.tmp 3], none⟩,
    ⟨(some 8), .r (.load none), [.tmp 7], none⟩,
    ⟨(some 9), .p (.bin .eql), [.tmp 6, .tmp 8], none⟩,
    ⟨(some 10), .p .move, [.tmp 9], none⟩,
    ⟨(some 11), .p (.fieldAddr 1), [.tmp 2], some (10, true)⟩,
    ⟨(some 12), .r (.load none), [.tmp 11], some (10, true)⟩,
    ⟨(some 13), .p (.fieldAddr 1), [.tmp 3], some (10, true)⟩,
    ⟨(some 14), .r (.load none), [.tmp 13], some (10, true)⟩,
    ⟨(some 15), .p (.bin .eql), [.tmp 12, .tmp 14], some (10, true)⟩,
    ⟨(some 16), .p .pick, [.tmp 10, .tmp 15, .lit (.bool false)], none⟩,
    ⟨(some 17), .p .move, [.tmp 16], none⟩,
    ⟨(some 18), .p (.fieldAddr 2), [.tmp 2], some (17, true)⟩,
    ⟨(some 19), .r (.load none), [.tmp 18], some (17, true)⟩,
    ⟨(some 20), .p (.fieldAddr 2), [.tmp 3], some (17, true)⟩,
    ⟨(some 21), .r (.load none), [.tmp 20], some (17, true)⟩,
    ⟨(some 22), .h (.call 35), [.tmp 19, .tmp 21], some (17, true)⟩,
    ⟨(some 23), .p .pick, [.tmp 17, .tmp 22, .lit (.bool false)], none⟩,
    ⟨(some 24), .p .move, [.tmp 23], none⟩,
    ⟨(some 25), .p (.fieldAddr 3), [.tmp 2], some (24, true)⟩,
    ⟨(some 26), .r (.load none), [.tmp 25], some (24, true)⟩,
    ⟨(some 27), .p (.fieldAddr 3), [.tmp 3], some (24, true)⟩,
    ⟨(some 28), .r (.load none), [.tmp 27], some (24, true)⟩,
    ⟨(some 29), .p (.eq false .bool), [.tmp 26, .tmp 28], some (24, true)⟩,
    ⟨(some 30), .p .pick, [.tmp 24, .tmp 29, .lit (.bool false)], none⟩,
    ⟨(some 31), .p .move, [.tmp 30], none⟩,
    ⟨(some 32), .p (.fieldAddr 4), [.tmp 2], some (31, true)⟩,
    ⟨(some 33), .r (.load none), [.tmp 32], some (31, true)⟩,
    ⟨(some 34), .p (.fieldAddr 4), [.tmp 3], some (31, true)⟩,
    ⟨(some 35), .r (.load none), [.tmp 34], some (31, true)⟩,
    ⟨(some 36), .p (.bin .eql), [.tmp 33, .tmp 35], some (31, true)⟩,
    ⟨(some 37), .p .pick, [.tmp 31, .tmp 36, .lit (.bool false)], none⟩,
    ⟨(some 38), .p .move, [.tmp 37], none⟩,
    ⟨(some 39), .p (.fieldAddr 5), [.tmp 2], some (38, true)⟩,
    ⟨(some 40), .r (.load none), [.tmp 39], some (38, true)⟩,
    ⟨(some 41), .p (.fieldAddr 5), [.tmp 3], some (38, true)⟩,
    ⟨(some 42), .r (.load none), [.tmp 41], some (38, true)⟩,
    ⟨(some 43), .p (.bin .eql), [.tmp 40, .tmp 42], some (38, true)⟩,
    ⟨(some 44), .p .pick, [.tmp 38, .tmp 43, .lit (.bool false)], none⟩,
    ⟨(some 4), .p .move, [.tmp 44], none⟩])
  .ret)), [.tmp 4]⟩
theorem c34 : cFunc Go.Proofs.Tryd.prog false 2 Go.Proofs.Tryd.f34 = some sf34 := by kernel_rfl

/-- rosary/rosarybook.SameItems -/
def sf35 : SFunc := ⟨2, 27, (.seq (.reg [⟨(some 4), .p .move, [.lit (.bool false)], none⟩])
  (.seq (.seq (.reg [⟨(some 6), .p .move, [.tmp 0], none⟩,
    ⟨(some 7), .p .lenSl, [.tmp 6], none⟩,
    ⟨(some 8), .p .move, [.tmp 1], none⟩,
    ⟨(some 9), .p .lenSl, [.tmp 8], none⟩,
    ⟨(some 10), .p (.bin .neq), [.tmp 7, .tmp 9], none⟩])
  (.cond (.tmp 10) (.seq (.reg [⟨(some 4), .p .move, [.lit (.bool false)], none⟩])
  .ret)
  .skip))
  (.seq (.seq (.reg [⟨(some 5), .p .move, [.lit (.int .i64 0)], none⟩])
  (.block 0 (.loop [0, 1, 5] (.seq (.seq (.reg [⟨(some 11), .p .move, [.tmp 5], none⟩,
    ⟨(some 12), .p .move, [.tmp 0], none⟩,
    ⟨(some 13), .p .lenSl, [.tmp 12], none⟩,
    ⟨(some 14), .p (.bin .lss), [.tmp 11, .tmp 13], none⟩])
  (.cond (.tmp 14) .skip
  (.exit 0)))
  (.seq (.block 1 (.seq (.dreg [⟨[⟨(some 17), .p .move, [.tmp 0], none⟩,
    ⟨(some 18), .p .move, [.tmp 5], none⟩,
    ⟨(some 19), .p (.indexAddr 2), [.tmp 17, .tmp 18], none⟩,
    ⟨(some 20), .r (.load (some 2)), [.tmp 19], none⟩,
    ⟨(some 21), .p .move, [.tmp 1], none⟩,
    ⟨(some 22), .p .move, [.tmp 5], none⟩,
    ⟨(some 23), .p (.indexAddr 2), [.tmp 21, .tmp 22], none⟩,
    ⟨(some 24), .r (.load (some 2)), [.tmp 23], none⟩,
    ⟨(some 25), .p (.eq false (.agg [.str, .str])), [.tmp 20, .tmp 24], none⟩,
    ⟨(some 26), .p .not, [.tmp 25], none⟩], [], none⟩])
  (.cond (.tmp 26) (.seq (.reg [⟨(some 4), .p .move, [.lit (.bool false)], none⟩])
  .ret)
  .skip)))
  (.reg [⟨(some 15), .p .move, [.tmp 5], none⟩,
    ⟨(some 16), .p (.bin .add), [.tmp 15, .lit (.int .i64 1)], none⟩,
    ⟨(some 5), .p .move, [.tmp 16], none⟩]))))))
  (.seq (.reg [⟨(some 4), .p .move, [.lit (.bool true)], none⟩])
  .ret)))), [.tmp 4]⟩
theorem c35 : cFunc Go.Proofs.Tryd.prog false 2 Go.Proofs.Tryd.f35 = some sf35 := by kernel_rfl

/-- rosary/letter.small -/
def sf37 : SFunc := ⟨1, 6, (.seq (.reg [⟨(some 2), .p .move, [.lit (.bool false)], none⟩])
  (.seq (.reg [⟨(some 3), .p .move, [.tmp 0], none⟩,
    ⟨(some 4), .h (.call 62), [.tmp 3, .lit (.func 63 [])], none⟩,
    ⟨(some 5), .p .not, [.tmp 4], none⟩,
    ⟨(some 2), .p .move, [.tmp 5], none⟩])
  .ret)), [.tmp 2]⟩
theorem c37 : cFunc Go.Proofs.Tryd.prog false 1 Go.Proofs.Tryd.f37 = some sf37 := by kernel_rfl

/-- rosary/letter.wide -/
def sf38 : SFunc := ⟨1, 6, (.seq (.reg [⟨(some 2), .p .move, [.lit (.bool false)], none⟩])
  (.seq (.reg [⟨(some 3), .p .move, [.tmp 0], none⟩,
    ⟨(some 4), .h (.call 62), [.tmp 3, .lit (.func 64 [])], none⟩,
    ⟨(some 5), .p .not, [.tmp 4], none⟩,
    ⟨(some 2), .p .move, [.tmp 5], none⟩])
  .ret)), [.tmp 2]⟩
theorem c38 : cFunc Go.Proofs.Tryd.prog false 1 Go.Proofs.Tryd.f38 = some sf38 := by kernel_rfl

/-- rosary/letter.texts -/
def sf39 : SFunc := ⟨1, 6, (.seq (.reg [⟨(some 2), .p .move, [.lit (.bool false)], none⟩])
  (.seq (.reg [⟨(some 3), .p .move, [.tmp 0], none⟩,
    ⟨(some 4), .h (.call 65), [.tmp 3, .lit (.func 66 [])], none⟩,
    ⟨(some 5), .p .not, [.tmp 4], none⟩,
    ⟨(some 2), .p .move, [.tmp 5], none⟩])
  .ret)), [.tmp 2]⟩
theorem c39 : cFunc Go.Proofs.Tryd.prog false 1 Go.Proofs.Tryd.f39 = some sf39 := by kernel_rfl

/-- rosary/letter.items -/
def sf40 : SFunc := ⟨1, 11, (.seq (.reg [⟨(some 2), .p .move, [.lit (.bool false)], none⟩])
  (.seq (.reg [⟨(some 3), .p .move, [.tmp 0], none⟩,
    ⟨(some 4), .p .lenSl, [.tmp 3], none⟩,
    ⟨(some 5), .p (.bin .leq), [.tmp 4, .lit (.int .i64 40)], none⟩,
    ⟨(some 6), .p .move, [.tmp 5], none⟩,
    ⟨(some 7), .p .move, [.tmp 0], some (6, true)⟩,
    ⟨(some 8), .h (.call 67), [.tmp 7, .lit (.func 68 [])], some (6, true)⟩,
    ⟨(some 9), .p .not, [.tmp 8], some (6, true)⟩,
    ⟨(some 10), .p .pick, [.tmp 6, .tmp 9, .lit (.bool false)], none⟩,
    ⟨(some 2), .p .move, [.tmp 10], none⟩])
  .ret)), [.tmp 2]⟩
theorem c40 : cFunc Go.Proofs.Tryd.prog false 1 Go.Proofs.Tryd.f40 = some sf40 := by kernel_rfl

/-- rosary/letter.none -/
def sf41 : SFunc := ⟨1, 87, (.seq (.reg [⟨(some 1), .a .box, [.tmp 0], none⟩,
    ⟨(some 2), .p .move, [.lit (.bool false)], none⟩])
  (.seq (.seq (.reg [⟨(some 4), .p (.fieldAddr 18), [.tmp 1], none⟩,
    ⟨(some 5), .r (.load none), [.tmp 4], none⟩,
    ⟨(some 6), .p .lenSl, [.tmp 5], none⟩,
    ⟨(some 7), .p (.bin .gtr), [.tmp 6, .lit (.int .i64 0)], none⟩,
    ⟨(some 8), .p .move, [.tmp 7], none⟩,
    ⟨(some 9), .p (.fieldAddr 9), [.tmp 1], some (8, false)⟩,
    ⟨(some 10), .p (.fieldAddr 2), [.tmp 9], some (8, false)⟩,
    ⟨(some 11), .r (.load none), [.tmp 10], some (8, false)⟩,
    ⟨(some 12), .p .lenSl, [.tmp 11], some (8, false)⟩,
    ⟨(some 13), .p (.bin .gtr), [.tmp 12, .lit (.int .i64 0)], some (8, false)⟩,
    ⟨(some 14), .p .pick, [.tmp 8, .lit (.bool true), .tmp 13], none⟩])
  (.cond (.tmp 14) (.seq (.reg [⟨(some 2), .p .move, [.lit (.bool false)], none⟩])
  .ret)
  .skip))
  (.seq (.reg [⟨(some 15), .p (.fieldAddr 9), [.tmp 1], none⟩,
    ⟨(some 16), .r (.load (some 6)), [.tmp 15], none⟩,
    ⟨(some 3), .a (.alloc [(.int .i64 0), (.str []), .nilslice, (.bool false), (.str []), (.int .i64 0)]), [], none⟩,
    ⟨none, .h (.store 6), [.tmp 3, .tmp 16], none⟩])
  (.seq (.reg [⟨(some 17), .p (.fieldAddr 0), [.tmp 1], none⟩,
    ⟨(some 18), .r (.load none), [.tmp 17], none⟩,
    ⟨(some 19), .p (.bin .eql), [.tmp 18, .lit (.int .i64 0)], none⟩,
    ⟨(some 20), .p .move, [.tmp 19], none⟩,
    ⟨(some 21), .p (.fieldAddr 1), [.tmp 1], some (20, true)⟩,
    ⟨(some 22), .r (.load none), [.tmp 21], some (20, true)⟩,
    ⟨(some 23), .p (.bin .eql), [.tmp 22, .lit (.int .i64 0)], some (20, true)⟩,
    ⟨(some 24), .p .pick, [.tmp 20, .tmp 23, .lit (.bool false)], none⟩,
    ⟨(some 25), .p .move, [.tmp 24], none⟩,
    ⟨(some 26), .p (.fieldAddr 2), [.tmp 1], some (25, true)⟩,
    ⟨(some 27), .r (.load none), [.tmp 26], some (25, true)⟩,
    ⟨(some 28), .p (.bin .eql), [.tmp 27, .lit (.int .i64 0)], some (25, true)⟩,
    ⟨(some 29), .p .pick, [.tmp 25, .tmp 28, .lit (.bool false)], none⟩,
    ⟨(some 30), .p .move, [.tmp 29], none⟩,
    ⟨(some 31), .p (.fieldAddr 3), [.tmp 1], some (30, true)⟩,
    ⟨(some 32), .r (.load none), [.tmp 31], some (30, true)⟩,
    ⟨(some 33), .p (.bin .eql), [.tmp 32, .lit (.int .i64 0)], some (30, true)⟩,
    ⟨(some 34), .p .pick, [.tmp 30, .tmp 33, .lit (.bool false)], none⟩,
    ⟨(some 35), .p .move, [.tmp 34], none⟩,
    ⟨(some 36), .p (.fieldAddr 4), [.tmp 1], some (35, true)⟩,
    ⟨(some 37), .r (.load (some 5)), [.tmp 36], some (35, true)⟩,
    ⟨(some 38), .p (.build [(.int .i64 0), (.str []), (.str []), (.str []), (.int .i64 0)] []), [], some (35, true)⟩,
    ⟨(some 39), .p (.eq false (.agg [.int, .str, .str, .str, .int])), [.tmp 37, .tmp 38], some (35, true)⟩,
    ⟨(some 40), .p .pick, [.tmp 35, .tmp 39, .lit (.bool false)], none⟩,
    ⟨(some 41), .p .move, [.tmp 40], none⟩,
    ⟨(some 42), .p (.fieldAddr 15), [.tmp 1], some (41, true)⟩,
    ⟨(some 43), .r (.load (some 2)), [.tmp 42], some (41, true)⟩,
    ⟨(some 44), .p (.build [(.int .u64 0), (.int .u64 0)] []), [], some (41, true)⟩,
    ⟨(some 45), .p (.eq false (.agg [.int, .int])), [.tmp 43, .tmp 44], some (41, true)⟩,
    ⟨(some 46), .p .pick, [.tmp 41, .tmp 45, .lit (.bool false)], none⟩,
    ⟨(some 47), .p .move, [.tmp 46], none⟩,
    ⟨(some 48), .p (.fieldAddr 17), [.tmp 1], some (47, true)⟩,
    ⟨(some 49), .r (.load none), [.tmp 48], some (47, true)⟩,
    ⟨(some 50), .p (.bin .eql), [.tmp 49, .lit (.int .i64 0)], some (47, true)⟩,
    ⟨(some 51), .p .pick, [.tmp 47, .tmp 50, .lit (.bool false)], none⟩,
    ⟨(some 52), .p .move, [.tmp 51], none⟩,
    ⟨(some 53), .p (.fieldAddr 19), [.tmp 1], some (52, true)⟩,
    ⟨(some 54), .r (.load none), [.tmp 53], some (52, true)⟩,
    ⟨(some 55), .p (.bin .eql), [.tmp 54, .lit (.int .i64 0)], some (52, true)⟩,
    ⟨(some 56), .p .pick, [.tmp 52, .tmp 55, .lit (.bool false)], none⟩,
    ⟨(some 57), .p .move, [.tmp 56], none⟩,
    ⟨(some 58), .p (.fieldAddr 20), [.tmp 1], some (57, true)⟩,
    ⟨(some 59), .r (.load none), [.tmp 58], some (57, true)⟩,
    ⟨(some 60), .p (.bin .eql), [.tmp 59, .lit (.int .i64 0)], some (57, true)⟩,
    ⟨(some 61), .p .pick, [.tmp 57, .tmp 60, .lit (.bool false)], none⟩,
    ⟨(some 62), .p .move, [.tmp 61], none⟩,
    ⟨(some 63), .p (.fieldAddr 0), [.tmp 3], some (62, true)⟩,
    ⟨(some 64), .r (.load none), [.tmp 63], some (62, true)⟩,
    ⟨(some 65), .p (.bin .eql), [.tmp 64, .lit (.int .i64 0)], some (62, true)⟩,
    ⟨(some 66), .p .pick, [.tmp 62, .tmp 65, .lit (.bool false)], none⟩,
    ⟨(some 67), .p .move, [.tmp 66], none⟩,
    ⟨(some 68), .p (.fieldAddr 1), [.tmp 3], some (67, true)⟩,
    ⟨(some 69), .r (.load none), [.tmp 68], some (67, true)⟩,
    ⟨(some 70), .p (.bin .eql), [.tmp 69, .lit (.str [])], some (67, true)⟩,
    ⟨(some 71), .p .pick, [.tmp 67, .tmp 70, .lit (.bool false)], none⟩,
    ⟨(some 72), .p .move, [.tmp 71], none⟩,
    ⟨(some 73), .p (.fieldAddr 3), [.tmp 3], some (72, true)⟩,
    ⟨(some 74), .r (.load none), [.tmp 73], some (72, true)⟩,
    ⟨(some 75), .p .not, [.tmp 74], some (72, true)⟩,
    ⟨(some 76), .p .pick, [.tmp 72, .tmp 75, .lit (.bool false)], none⟩,
    ⟨(some 77), .p .move, [.tmp 76], none⟩,
    ⟨(some 78), .p (.fieldAddr 4), [.tmp 3], some (77, true)⟩,
    ⟨(some 79), .r (.load none), [.tmp 78], some (77, true)⟩,
    ⟨(some 80), .p (.bin .eql), [.tmp 79, .lit (.str [])], some (77, true)⟩,
    ⟨(some 81), .p .pick, [.tmp 77, .tmp 80, .lit (.bool false)], none⟩,
    ⟨(some 82), .p .move, [.tmp 81], none⟩,
    ⟨(some 83), .p (.fieldAddr 5), [.tmp 3], some (82, true)⟩,
    ⟨(some 84), .r (.load none), [.tmp 83], some (82, true)⟩,
    ⟨(some 85), .p (.bin .eql), [.tmp 84, .lit (.int .i64 0)], some (82, true)⟩,
    ⟨(some 86), .p .pick, [.tmp 82, .tmp 85, .lit (.bool false)], none⟩,
    ⟨(some 2), .p .move, [.tmp 86], none⟩])
  .ret)))), [.tmp 2]⟩
theorem c41 : cFunc Go.Proofs.Tryd.prog false 1 Go.Proofs.Tryd.f41 = some sf41 := by kernel_rfl

/-- rosary/rosaryref1.byteful -/
def sf42 : SFunc := ⟨1, 9, (.seq (.reg [⟨(some 2), .p .move, [.lit (.bool false)], none⟩])
  (.seq (.reg [⟨(some 3), .p .move, [.tmp 0], none⟩,
    ⟨(some 4), .p (.bin .geq), [.tmp 3, .lit (.int .i64 0)], none⟩,
    ⟨(some 5), .p .move, [.tmp 4], none⟩,
    ⟨(some 6), .p .move, [.tmp 0], some (5, true)⟩,
    ⟨(some 7), .p (.bin .leq), [.tmp 6, .lit (.int .i64 255)], some (5, true)⟩,
    ⟨(some 8), .p .pick, [.tmp 5, .tmp 7, .lit (.bool false)], none⟩,
    ⟨(some 2), .p .move, [.tmp 8], none⟩])
  .ret)), [.tmp 2]⟩
theorem c42 : cFunc Go.Proofs.Tryd.prog false 1 Go.Proofs.Tryd.f42 = some sf42 := by kernel_rfl

/-- rosary/rosaryref1.numeral -/
def sf43 : SFunc := ⟨1, 9, (.seq (.reg [⟨(some 2), .p .move, [.lit (.bool false)], none⟩])
  (.seq (.reg [⟨(some 3), .p .move, [.tmp 0], none⟩,
    ⟨(some 4), .p (.bin .geq), [.tmp 3, .lit (.int .i64 0)], none⟩,
    ⟨(some 5), .p .move, [.tmp 4], none⟩,
    ⟨(some 6), .p .move, [.tmp 0], some (5, true)⟩,
    ⟨(some 7), .p (.bin .leq), [.tmp 6, .lit (.int .i64 65535)], some (5, true)⟩,
    ⟨(some 8), .p .pick, [.tmp 5, .tmp 7, .lit (.bool false)], none⟩,
    ⟨(some 2), .p .move, [.tmp 8], none⟩])
  .ret)), [.tmp 2]⟩
theorem c43 : cFunc Go.Proofs.Tryd.prog false 1 Go.Proofs.Tryd.f43 = some sf43 := by kernel_rfl

/-- rosary/rosaryref1.Letter -/
def sf44 : SFunc := ⟨1, 117, (.seq (.reg [⟨(some 1), .a .box, [.tmp 0], none⟩,
    ⟨(some 2), .p .move, [.lit (.bool false)], none⟩])
  (.seq (.seq (.reg [⟨(some 5), .p (.fieldAddr 0), [.tmp 1], none⟩,
    ⟨(some 6), .r (.load none), [.tmp 5], none⟩,
    ⟨(some 7), .p (.bin .lss), [.tmp 6, .lit (.int .i64 1)], none⟩,
    ⟨(some 8), .p .move, [.tmp 7], none⟩,
    ⟨(some 9), .p (.fieldAddr 0), [.tmp 1], some (8, false)⟩,
    ⟨(some 10), .r (.load none), [.tmp 9], some (8, false)⟩,
    ⟨(some 11), .p (.bin .gtr), [.tmp 10, .lit (.int .i64 16)], some (8, false)⟩,
    ⟨(some 12), .p .pick, [.tmp 8, .lit (.bool true), .tmp 11], none⟩,
    ⟨(some 13), .p .move, [.tmp 12], none⟩,
    ⟨(some 14), .p (.fieldAddr 1), [.tmp 1], some (13, false)⟩,
    ⟨(some 15), .r (.load none), [.tmp 14], some (13, false)⟩,
    ⟨(some 16), .h (.call 42), [.tmp 15], some (13, false)⟩,
    ⟨(some 17), .p .not, [.tmp 16], some (13, false)⟩,
    ⟨(some 18), .p .pick, [.tmp 13, .lit (.bool true), .tmp 17], none⟩,
    ⟨(some 19), .p .move, [.tmp 18], none⟩,
    ⟨(some 20), .p (.fieldAddr 2), [.tmp 1], some (19, false)⟩,
    ⟨(some 21), .r (.load none), [.tmp 20], some (19, false)⟩,
    ⟨(some 22), .h (.call 42), [.tmp 21], some (19, false)⟩,
    ⟨(some 23), .p .not, [.tmp 22], some (19, false)⟩,
    ⟨(some 24), .p .pick, [.tmp 19, .lit (.bool true), .tmp 23], none⟩,
    ⟨(some 25), .p .move, [.tmp 24], none⟩,
    ⟨(some 26), .p (.fieldAddr 20), [.tmp 1], some (25, false)⟩,
    ⟨(some 27), .r (.load none), [.tmp 26], some (25, false)⟩,
    ⟨(some 28), .h (.call 42), [.tmp 27], some (25, false)⟩,
    ⟨(some 29), .p .not, [.tmp 28], some (25, false)⟩,
    ⟨(some 30), .p .pick, [.tmp 25, .lit (.bool true), .tmp 29], none⟩,
    ⟨(some 31), .p .move, [.tmp 30], none⟩,
    ⟨(some 32), .p (.fieldAddr 3), [.tmp 1], some (31, false)⟩,
    ⟨(some 33), .r (.load none), [.tmp 32], some (31, false)⟩,
    ⟨(some 34), .h (.call 43), [.tmp 33], some (31, false)⟩,
    ⟨(some 35), .p .not, [.tmp 34], some (31, false)⟩,
    ⟨(some 36), .p .pick, [.tmp 31, .lit (.bool true), .tmp 35], none⟩,
    ⟨(some 37), .p .move, [.tmp 36], none⟩,
    ⟨(some 38), .p (.fieldAddr 17), [.tmp 1], some (37, false)⟩,
    ⟨(some 39), .r (.load none), [.tmp 38], some (37, false)⟩,
    ⟨(some 40), .h (.call 43), [.tmp 39], some (37, false)⟩,
    ⟨(some 41), .p .not, [.tmp 40], some (37, false)⟩,
    ⟨(some 42), .p .pick, [.tmp 37, .lit (.bool true), .tmp 41], none⟩,
    ⟨(some 43), .p .move, [.tmp 42], none⟩,
    ⟨(some 44), .p (.fieldAddr 19), [.tmp 1], some (43, false)⟩,
    ⟨(some 45), .r (.load none), [.tmp 44], some (43, false)⟩,
    ⟨(some 46), .h (.call 43), [.tmp 45], some (43, false)⟩,
    ⟨(some 47), .p .not, [.tmp 46], some (43, false)⟩,
    ⟨(some 48), .p .pick, [.tmp 43, .lit (.bool true), .tmp 47], none⟩,
    ⟨(some 49), .p .move, [.tmp 48], none⟩,
    ⟨(some 50), .p (.fieldAddr 18), [.tmp 1], some (49, false)⟩,
    ⟨(some 51), .r (.load none), [.tmp 50], some (49, false)⟩,
    ⟨(some 52), .h (.call 69), [.tmp 51], some (49, false)⟩,
    ⟨(some 53), .p .not, [.tmp 52], some (49, false)⟩,
    ⟨(some 54), .p .pick, [.tmp 49, .lit (.bool true), .tmp 53], none⟩])
  (.cond (.tmp 54) (.seq (.reg [⟨(some 2), .p .move, [.lit (.bool false)], none⟩])
  .ret)
  .skip))
  (.seq (.dreg [⟨[⟨(some 55), .p (.fieldAddr 4), [.tmp 1], none⟩,
    ⟨(some 56), .r (.load (some 5)), [.tmp 55], none⟩,
    ⟨(some 57), .p (.fieldAddr 9), [.tmp 1], none⟩,
    ⟨(some 58), .r (.load (some 6)), [.tmp 57], none⟩,
    ⟨(some 3), .a (.alloc [(.int .i64 0), (.str []), (.str []), (.str []), (.int .i64 0)]), [], none⟩,
    ⟨(some 4), .a (.alloc [(.int .i64 0), (.str []), .nilslice, (.bool false), (.str []), (.int .i64 0)]), [], none⟩], [], some ⟨none, .h (.store 5), [.tmp 3, .tmp 56], none⟩⟩,
   ⟨[], [⟨(some 58), .r (.load (some 6)), [.tmp 57], none⟩], some ⟨none, .h (.store 6), [.tmp 4, .tmp 58], none⟩⟩,
   ⟨[], [], none⟩])
  (.seq (.seq (.reg [⟨(some 59), .p (.fieldAddr 0), [.tmp 3], none⟩,
    ⟨(some 60), .r (.load none), [.tmp 59], none⟩,
    ⟨(some 61), .h (.call 42), [.tmp 60], none⟩,
    ⟨(some 62), .p .not, [.tmp 61], none⟩,
    ⟨(some 63), .p .move, [.tmp 62], none⟩,
    ⟨(some 64), .p (.fieldAddr 1), [.tmp 3], some (63, false)⟩,
    ⟨(some 65), .r (.load none), [.tmp 64], some (63, false)⟩,
    ⟨(some 66), .p .lenStr, [.tmp 65], some (63, false)⟩,
    ⟨(some 67), .p (.bin .gtr), [.tmp 66, .lit (.int .i64 255)], some (63, false)⟩,
    ⟨(some 68), .p .pick, [.tmp 63, .lit (.bool true), .tmp 67], none⟩,
    ⟨(some 69), .p .move, [.tmp 68], none⟩,
    ⟨(some 70), .p (.fieldAddr 2), [.tmp 3], some (69, false)⟩,
    ⟨(some 71), .r (.load none), [.tmp 70], some (69, false)⟩,
    ⟨(some 72), .p .lenStr, [.tmp 71], some (69, false)⟩,
    ⟨(some 73), .p (.bin .gtr), [.tmp 72, .lit (.int .i64 255)], some (69, false)⟩,
    ⟨(some 74), .p .pick, [.tmp 69, .lit (.bool true), .tmp 73], none⟩,
    ⟨(some 75), .p .move, [.tmp 74], none⟩,
    ⟨(some 76), .p (.fieldAddr 3), [.tmp 3], some (75, false)⟩,
    ⟨(some 77), .r (.load none), [.tmp 76], some (75, false)⟩,
    ⟨(some 78), .p .lenStr, [.tmp 77], some (75, false)⟩,
    ⟨(some 79), .p (.bin .gtr), [.tmp 78, .lit (.int .i64 255)], some (75, false)⟩,
    ⟨(some 80), .p .pick, [.tmp 75, .lit (.bool true), .tmp 79], none⟩,
    ⟨(some 81), .p .move, [.tmp 80], none⟩,
    ⟨(some 82), .p (.fieldAddr 4), [.tmp 3], some (81, false)⟩,
    ⟨(some 83), .r (.load none), [.tmp 82], some (81, false)⟩,
    ⟨(some 84), .h (.call 43), [.tmp 83], some (81, false)⟩,
    ⟨(some 85), .p .not, [.tmp 84], some (81, false)⟩,
    ⟨(some 86), .p .pick, [.tmp 81, .lit (.bool true), .tmp 85], none⟩])
  (.cond (.tmp 86) (.seq (.reg [⟨(some 2), .p .move, [.lit (.bool false)], none⟩])
  .ret)
  .skip))
  (.seq (.reg [⟨(some 87), .p (.fieldAddr 0), [.tmp 4], none⟩,
    ⟨(some 88), .r (.load none), [.tmp 87], none⟩,
    ⟨(some 89), .p (.bin .geq), [.tmp 88, .lit (.int .i64 0)], none⟩,
    ⟨(some 90), .p .move, [.tmp 89], none⟩,
    ⟨(some 91), .p (.fieldAddr 0), [.tmp 4], some (90, true)⟩,
    ⟨(some 92), .r (.load none), [.tmp 91], some (90, true)⟩,
    ⟨(some 93), .p (.bin .leq), [.tmp 92, .lit (.int .i64 255)], some (90, true)⟩,
    ⟨(some 94), .p .pick, [.tmp 90, .tmp 93, .lit (.bool false)], none⟩,
    ⟨(some 95), .p .move, [.tmp 94], none⟩,
    ⟨(some 96), .p (.fieldAddr 1), [.tmp 4], some (95, true)⟩,
    ⟨(some 97), .r (.load none), [.tmp 96], some (95, true)⟩,
    ⟨(some 98), .p .lenStr, [.tmp 97], some (95, true)⟩,
    ⟨(some 99), .p (.bin .leq), [.tmp 98, .lit (.int .i64 255)], some (95, true)⟩,
    ⟨(some 100), .p .pick, [.tmp 95, .tmp 99, .lit (.bool false)], none⟩,
    ⟨(some 101), .p .move, [.tmp 100], none⟩,
    ⟨(some 102), .p (.fieldAddr 4), [.tmp 4], some (101, true)⟩,
    ⟨(some 103), .r (.load none), [.tmp 102], some (101, true)⟩,
    ⟨(some 104), .p .lenStr, [.tmp 103], some (101, true)⟩,
    ⟨(some 105), .p (.bin .leq), [.tmp 104, .lit (.int .i64 255)], some (101, true)⟩,
    ⟨(some 106), .p .pick, [.tmp 101, .tmp 105, .lit (.bool false)], none⟩,
    ⟨(some 107), .p .move, [.tmp 106], none⟩,
    ⟨(some 108), .p (.fieldAddr 2), [.tmp 4], some (107, true)⟩,
    ⟨(some 109), .r (.load none), [.tmp 108], some (107, true)⟩,
    ⟨(some 110), .h (.call 69), [.tmp 109], some (107, true)⟩,
    ⟨(some 111), .p .pick, [.tmp 107, .tmp 110, .lit (.bool false)], none⟩,
    ⟨(some 112), .p .move, [.tmp 111], none⟩,
    ⟨(some 113), .p (.fieldAddr 5), [.tmp 4], some (112, true)⟩,
    ⟨(some 114), .r (.load none), [.tmp 113], some (112, true)⟩,
    ⟨(some 115), .h (.call 42), [.tmp 114], some (112, true)⟩,
    ⟨(some 116), .p .pick, [.tmp 112, .tmp 115, .lit (.bool false)], none⟩,
    ⟨(some 2), .p .move, [.tmp 116], none⟩])
  .ret))))), [.tmp 2]⟩
theorem c44 : cFunc Go.Proofs.Tryd.prog false 1 Go.Proofs.Tryd.f44 = some sf44 := by kernel_rfl

/-- rosary/rosaryref1.Zero -/
def sf45 : SFunc := ⟨1, 91, (.seq (.reg [⟨(some 1), .a .box, [.tmp 0], none⟩,
    ⟨(some 2), .p .move, [.lit (.bool false)], none⟩])
  (.seq (.reg [⟨(some 3), .p (.fieldAddr 0), [.tmp 1], none⟩,
    ⟨(some 4), .r (.load none), [.tmp 3], none⟩,
    ⟨(some 5), .p (.bin .eql), [.tmp 4, .lit (.int .i64 0)], none⟩,
    ⟨(some 6), .p .move, [.tmp 5], none⟩,
    ⟨(some 7), .p (.fieldAddr 1), [.tmp 1], some (6, true)⟩,
    ⟨(some 8), .r (.load none), [.tmp 7], some (6, true)⟩,
    ⟨(some 9), .p (.bin .eql), [.tmp 8, .lit (.int .i64 0)], some (6, true)⟩,
    ⟨(some 10), .p .pick, [.tmp 6, .tmp 9, .lit (.bool false)], none⟩,
    ⟨(some 11), .p .move, [.tmp 10], none⟩,
    ⟨(some 12), .p (.fieldAddr 2), [.tmp 1], some (11, true)⟩,
    ⟨(some 13), .r (.load none), [.tmp 12], some (11, true)⟩,
    ⟨(some 14), .p (.bin .eql), [.tmp 13, .lit (.int .i64 0)], some (11, true)⟩,
    ⟨(some 15), .p .pick, [.tmp 11, .tmp 14, .lit (.bool false)], none⟩,
    ⟨(some 16), .p .move, [.tmp 15], none⟩,
    ⟨(some 17), .p (.fieldAddr 3), [.tmp 1], some (16, true)⟩,
    ⟨(some 18), .r (.load none), [.tmp 17], some (16, true)⟩,
    ⟨(some 19), .p (.bin .eql), [.tmp 18, .lit (.int .i64 0)], some (16, true)⟩,
    ⟨(some 20), .p .pick, [.tmp 16, .tmp 19, .lit (.bool false)], none⟩,
    ⟨(some 21), .p .move, [.tmp 20], none⟩,
    ⟨(some 22), .p (.fieldAddr 4), [.tmp 1], some (21, true)⟩,
    ⟨(some 23), .r (.load (some 5)), [.tmp 22], some (21, true)⟩,
    ⟨(some 24), .p (.build [(.int .i64 0), (.str []), (.str []), (.str []), (.int .i64 0)] []), [], some (21, true)⟩,
    ⟨(some 25), .p (.eq false (.agg [.int, .str, .str, .str, .int])), [.tmp 23, .tmp 24], some (21, true)⟩,
    ⟨(some 26), .p .pick, [.tmp 21, .tmp 25, .lit (.bool false)], none⟩,
    ⟨(some 27), .p .move, [.tmp 26], none⟩,
    ⟨(some 28), .p (.fieldAddr 15), [.tmp 1], some (27, true)⟩,
    ⟨(some 29), .r (.load (some 2)), [.tmp 28], some (27, true)⟩,
    ⟨(some 30), .p (.build [(.int .u64 0), (.int .u64 0)] []), [], some (27, true)⟩,
    ⟨(some 31), .p (.eq false (.agg [.int, .int])), [.tmp 29, .tmp 30], some (27, true)⟩,
    ⟨(some 32), .p .pick, [.tmp 27, .tmp 31, .lit (.bool false)], none⟩,
    ⟨(some 33), .p .move, [.tmp 32], none⟩,
    ⟨(some 34), .p (.fieldAddr 17), [.tmp 1], some (33, true)⟩,
    ⟨(some 35), .r (.load none), [.tmp 34], some (33, true)⟩,
    ⟨(some 36), .p (.bin .eql), [.tmp 35, .lit (.int .i64 0)], some (33, true)⟩,
    ⟨(some 37), .p .pick, [.tmp 33, .tmp 36, .lit (.bool false)], none⟩,
    ⟨(some 38), .p .move, [.tmp 37], none⟩,
    ⟨(some 39), .p (.fieldAddr 18), [.tmp 1], some (38, true)⟩,
    ⟨(some 40), .r (.load none), [.tmp 39], some (38, true)⟩,
    ⟨(some 41), .p .lenSl, [.tmp 40], some (38, true)⟩,
    ⟨(some 42), .p (.bin .eql), [.tmp 41, .lit (.int .i64 0)], some (38, true)⟩,
    ⟨(some 43), .p .pick, [.tmp 38, .tmp 42, .lit (.bool false)], none⟩,
    ⟨(some 44), .p .move, [.tmp 43], none⟩,
    ⟨(some 45), .p (.fieldAddr 19), [.tmp 1], some (44, true)⟩,
    ⟨(some 46), .r (.load none), [.tmp 45], some (44, true)⟩,
    ⟨(some 47), .p (.bin .eql), [.tmp 46, .lit (.int .i64 0)], some (44, true)⟩,
    ⟨(some 48), .p .pick, [.tmp 44, .tmp 47, .lit (.bool false)], none⟩,
    ⟨(some 49), .p .move, [.tmp 48], none⟩,
    ⟨(some 50), .p (.fieldAddr 20), [.tmp 1], some (49, true)⟩,
    ⟨(some 51), .r (.load none), [.tmp 50], some (49, true)⟩,
    ⟨(some 52), .p (.bin .eql), [.tmp 51, .lit (.int .i64 0)], some (49, true)⟩,
    ⟨(some 53), .p .pick, [.tmp 49, .tmp 52, .lit (.bool false)], none⟩,
    ⟨(some 54), .p .move, [.tmp 53], none⟩,
    ⟨(some 55), .p (.fieldAddr 9), [.tmp 1], some (54, true)⟩,
    ⟨(some 56), .p (.fieldAddr 0), [.tmp 55], some (54, true)⟩,
    ⟨(some 57), .r (.load none), [.tmp 56], some (54, true)⟩,
    ⟨(some 58), .p (.bin .eql), [.tmp 57, .lit (.int .i64 0)], some (54, true)⟩,
    ⟨(some 59), .p .pick, [.tmp 54, .tmp 58, .lit (.bool false)], none⟩,
    ⟨(some 60), .p .move, [.tmp 59], none⟩,
    ⟨(some 61), .p (.fieldAddr 9), [.tmp 1], some (60, true)⟩,
    ⟨(some 62), .p (.fieldAddr 1), [.tmp 61], some (60, true)⟩,
    ⟨(some 63), .r (.load none), [.tmp 62], some (60, true)⟩,
    ⟨(some 64), .p (.bin .eql), [.tmp 63, .lit (.str [])], some (60, true)⟩,
    ⟨(some 65), .p .pick, [.tmp 60, .tmp 64, .lit (.bool false)], none⟩,
    ⟨(some 66), .p .move, [.tmp 65], none⟩,
    ⟨(some 67), .p (.fieldAddr 9), [.tmp 1], some (66, true)⟩,
    ⟨(some 68), .p (.fieldAddr 2), [.tmp 67], some (66, true)⟩,
    ⟨(some 69), .r (.load none), [.tmp 68], some (66, true)⟩,
    ⟨(some 70), .p .lenSl, [.tmp 69], some (66, true)⟩,
    ⟨(some 71), .p (.bin .eql), [.tmp 70, .lit (.int .i64 0)], some (66, true)⟩,
    ⟨(some 72), .p .pick, [.tmp 66, .tmp 71, .lit (.bool false)], none⟩,
    ⟨(some 73), .p .move, [.tmp 72], none⟩,
    ⟨(some 74), .p (.fieldAddr 9), [.tmp 1], some (73, true)⟩,
    ⟨(some 75), .p (.fieldAddr 3), [.tmp 74], some (73, true)⟩,
    ⟨(some 76), .r (.load none), [.tmp 75], some (73, true)⟩,
    ⟨(some 77), .p .not, [.tmp 76], some (73, true)⟩,
    ⟨(some 78), .p .pick, [.tmp 73, .tmp 77, .lit (.bool false)], none⟩,
    ⟨(some 79), .p .move, [.tmp 78], none⟩,
    ⟨(some 80), .p (.fieldAddr 9), [.tmp 1], some (79, true)⟩,
    ⟨(some 81), .p (.fieldAddr 4), [.tmp 80], some (79, true)⟩,
    ⟨(some 82), .r (.load none), [.tmp 81], some (79, true)⟩,
    ⟨(some 83), .p (.bin .eql), [.tmp 82, .lit (.str [])], some (79, true)⟩,
    ⟨(some 84), .p .pick, [.tmp 79, .tmp 83, .lit (.bool false)], none⟩,
    ⟨(some 85), .p .move, [.tmp 84], none⟩,
    ⟨(some 86), .p (.fieldAddr 9), [.tmp 1], some (85, true)⟩,
    ⟨(some 87), .p (.fieldAddr 5), [.tmp 86], some (85, true)⟩,
    ⟨(some 88), .r (.load none), [.tmp 87], some (85, true)⟩,
    ⟨(some 89), .p (.bin .eql), [.tmp 88, .lit (.int .i64 0)], some (85, true)⟩,
    ⟨(some 90), .p .pick, [.tmp 85, .tmp 89, .lit (.bool false)], none⟩,
    ⟨(some 2), .p .move, [.tmp 90], none⟩])
  .ret)), [.tmp 2]⟩
theorem c45 : cFunc Go.Proofs.Tryd.prog false 1 Go.Proofs.Tryd.f45 = some sf45 := by kernel_rfl

/-- rosary/rosaryref1.Num -/
def sf46 : SFunc := ⟨1, 10, (.seq (.reg [⟨(some 2), .p .move, [.lit (.str [])], none⟩])
  (.seq (.reg [⟨(some 3), .p .move, [.tmp 0], none⟩,
    ⟨(some 4), .p (.bin .quo), [.tmp 3, .lit (.int .i64 256)], none⟩,
    ⟨(some 5), .p (.convInt .u8), [.tmp 4], none⟩,
    ⟨(some 6), .p .move, [.tmp 0], none⟩,
    ⟨(some 7), .p (.convInt .u8), [.tmp 6], none⟩,
    ⟨(some 8), .a (.buildSlice 1 2 [(.int .u8 0)] [0, 1]), [.tmp 5, .tmp 7], none⟩,
    ⟨(some 9), .r .toStr, [.tmp 8], none⟩,
    ⟨(some 2), .p .move, [.tmp 9], none⟩])
  .ret)), [.tmp 2]⟩
theorem c46 : cFunc Go.Proofs.Tryd.prog false 1 Go.Proofs.Tryd.f46 = some sf46 := by kernel_rfl

/-- rosary/rosaryref1.Put -/
def sf47 : SFunc := ⟨1, 103, (.seq (.reg [⟨(some 1), .a .box, [.tmp 0], none⟩,
    ⟨(some 2), .p .move, [.lit (.str [])], none⟩])
  (.seq (.dreg [⟨[⟨(some 4), .p (.fieldAddr 0), [.tmp 1], none⟩,
    ⟨(some 5), .r (.load none), [.tmp 4], none⟩,
    ⟨(some 7), .p (.fieldAddr 1), [.tmp 1], none⟩,
    ⟨(some 8), .r (.load none), [.tmp 7], none⟩,
    ⟨(some 11), .p (.fieldAddr 2), [.tmp 1], none⟩,
    ⟨(some 12), .r (.load none), [.tmp 11], none⟩,
    ⟨(some 15), .p (.fieldAddr 3), [.tmp 1], none⟩,
    ⟨(some 16), .r (.load none), [.tmp 15], none⟩,
    ⟨(some 19), .p (.fieldAddr 17), [.tmp 1], none⟩,
    ⟨(some 20), .r (.load none), [.tmp 19], none⟩,
    ⟨(some 23), .p (.fieldAddr 19), [.tmp 1], none⟩,
    ⟨(some 24), .r (.load none), [.tmp 23], none⟩,
    ⟨(some 27), .p (.fieldAddr 20), [.tmp 1], none⟩,
    ⟨(some 28), .r (.load none), [.tmp 27], none⟩,
    ⟨(some 31), .p (.fieldAddr 15), [.tmp 1], none⟩,
    ⟨(some 32), .p (.fieldAddr 0), [.tmp 31], none⟩,
    ⟨(some 33), .r (.load none), [.tmp 32], none⟩,
    ⟨(some 36), .p (.fieldAddr 15), [.tmp 1], none⟩,
    ⟨(some 37), .p (.fieldAddr 1), [.tmp 36], none⟩,
    ⟨(some 38), .r (.load none), [.tmp 37], none⟩,
    ⟨(some 41), .p (.fieldAddr 18), [.tmp 1], none⟩,
    ⟨(some 42), .r (.load none), [.tmp 41], none⟩], [], some ⟨(some 6), .h (.call 46), [.tmp 5], none⟩⟩,
   ⟨[], [⟨(some 8), .r (.load none), [.tmp 7], none⟩,
    ⟨(some 12), .r (.load none), [.tmp 11], none⟩,
    ⟨(some 16), .r (.load none), [.tmp 15], none⟩,
    ⟨(some 20), .r (.load none), [.tmp 19], none⟩,
    ⟨(some 24), .r (.load none), [.tmp 23], none⟩,
    ⟨(some 28), .r (.load none), [.tmp 27], none⟩,
    ⟨(some 33), .r (.load none), [.tmp 32], none⟩,
    ⟨(some 38), .r (.load none), [.tmp 37], none⟩,
    ⟨(some 42), .r (.load none), [.tmp 41], none⟩], some ⟨(some 9), .h (.call 46), [.tmp 8], none⟩⟩,
   ⟨[⟨(some 10), .p (.bin .add), [.tmp 6, .tmp 9], none⟩], [⟨(some 12), .r (.load none), [.tmp 11], none⟩,
    ⟨(some 16), .r (.load none), [.tmp 15], none⟩,
    ⟨(some 20), .r (.load none), [.tmp 19], none⟩,
    ⟨(some 24), .r (.load none), [.tmp 23], none⟩,
    ⟨(some 28), .r (.load none), [.tmp 27], none⟩,
    ⟨(some 33), .r (.load none), [.tmp 32], none⟩,
    ⟨(some 38), .r (.load none), [.tmp 37], none⟩,
    ⟨(some 42), .r (.load none), [.tmp 41], none⟩], some ⟨(some 13), .h (.call 46), [.tmp 12], none⟩⟩,
   ⟨[⟨(some 14), .p (.bin .add), [.tmp 10, .tmp 13], none⟩], [⟨(some 16), .r (.load none), [.tmp 15], none⟩,
    ⟨(some 20), .r (.load none), [.tmp 19], none⟩,
    ⟨(some 24), .r (.load none), [.tmp 23], none⟩,
    ⟨(some 28), .r (.load none), [.tmp 27], none⟩,
    ⟨(some 33), .r (.load none), [.tmp 32], none⟩,
    ⟨(some 38), .r (.load none), [.tmp 37], none⟩,
    ⟨(some 42), .r (.load none), [.tmp 41], none⟩], some ⟨(some 17), .h (.call 46), [.tmp 16], none⟩⟩,
   ⟨[⟨(some 18), .p (.bin .add), [.tmp 14, .tmp 17], none⟩], [⟨(some 20), .r (.load none), [.tmp 19], none⟩,
    ⟨(some 24), .r (.load none), [.tmp 23], none⟩,
    ⟨(some 28), .r (.load none), [.tmp 27], none⟩,
    ⟨(some 33), .r (.load none), [.tmp 32], none⟩,
    ⟨(some 38), .r (.load none), [.tmp 37], none⟩,
    ⟨(some 42), .r (.load none), [.tmp 41], none⟩], some ⟨(some 21), .h (.call 46), [.tmp 20], none⟩⟩,
   ⟨[⟨(some 22), .p (.bin .add), [.tmp 18, .tmp 21], none⟩], [⟨(some 24), .r (.load none), [.tmp 23], none⟩,
    ⟨(some 28), .r (.load none), [.tmp 27], none⟩,
    ⟨(some 33), .r (.load none), [.tmp 32], none⟩,
    ⟨(some 38), .r (.load none), [.tmp 37], none⟩,
    ⟨(some 42), .r (.load none), [.tmp 41], none⟩], some ⟨(some 25), .h (.call 46), [.tmp 24], none⟩⟩,
   ⟨[⟨(some 26), .p (.bin .add), [.tmp 22, .tmp 25], none⟩], [⟨(some 28), .r (.load none), [.tmp 27], none⟩,
    ⟨(some 33), .r (.load none), [.tmp 32], none⟩,
    ⟨(some 38), .r (.load none), [.tmp 37], none⟩,
    ⟨(some 42), .r (.load none), [.tmp 41], none⟩], some ⟨(some 29), .h (.call 46), [.tmp 28], none⟩⟩,
   ⟨[⟨(some 30), .p (.bin .add), [.tmp 26, .tmp 29], none⟩], [⟨(some 33), .r (.load none), [.tmp 32], none⟩,
    ⟨(some 38), .r (.load none), [.tmp 37], none⟩,
    ⟨(some 42), .r (.load none), [.tmp 41], none⟩], some ⟨(some 34), .h (.call 70), [.tmp 33], none⟩⟩,
   ⟨[⟨(some 35), .p (.bin .add), [.tmp 30, .tmp 34], none⟩], [⟨(some 38), .r (.load none), [.tmp 37], none⟩,
    ⟨(some 42), .r (.load none), [.tmp 41], none⟩], some ⟨(some 39), .h (.call 70), [.tmp 38], none⟩⟩,
   ⟨[⟨(some 40), .p (.bin .add), [.tmp 35, .tmp 39], none⟩], [⟨(some 42), .r (.load none), [.tmp 41], none⟩], some ⟨(some 43), .h (.call 71), [.tmp 42], none⟩⟩,
   ⟨[⟨(some 44), .p (.bin .add), [.tmp 40, .tmp 43], none⟩,
    ⟨(some 3), .p .move, [.tmp 44], none⟩], [], none⟩])
  (.seq (.dreg [⟨[⟨(some 45), .p .move, [.tmp 3], none⟩,
    ⟨(some 46), .p (.fieldAddr 4), [.tmp 1], none⟩,
    ⟨(some 47), .p (.fieldAddr 0), [.tmp 46], none⟩,
    ⟨(some 48), .r (.load none), [.tmp 47], none⟩,
    ⟨(some 51), .p (.fieldAddr 4), [.tmp 1], none⟩,
    ⟨(some 52), .p (.fieldAddr 1), [.tmp 51], none⟩,
    ⟨(some 53), .r (.load none), [.tmp 52], none⟩,
    ⟨(some 56), .p (.fieldAddr 4), [.tmp 1], none⟩,
    ⟨(some 57), .p (.fieldAddr 2), [.tmp 56], none⟩,
    ⟨(some 58), .r (.load none), [.tmp 57], none⟩,
    ⟨(some 61), .p (.fieldAddr 4), [.tmp 1], none⟩,
    ⟨(some 62), .p (.fieldAddr 3), [.tmp 61], none⟩,
    ⟨(some 63), .r (.load none), [.tmp 62], none⟩,
    ⟨(some 66), .p (.fieldAddr 4), [.tmp 1], none⟩,
    ⟨(some 67), .p (.fieldAddr 4), [.tmp 66], none⟩,
    ⟨(some 68), .r (.load none), [.tmp 67], none⟩], [], some ⟨(some 49), .h (.call 46), [.tmp 48], none⟩⟩,
   ⟨[⟨(some 50), .p (.bin .add), [.tmp 45, .tmp 49], none⟩], [⟨(some 53), .r (.load none), [.tmp 52], none⟩,
    ⟨(some 58), .r (.load none), [.tmp 57], none⟩,
    ⟨(some 63), .r (.load none), [.tmp 62], none⟩,
    ⟨(some 68), .r (.load none), [.tmp 67], none⟩], some ⟨(some 54), .h (.call 72), [.tmp 53], none⟩⟩,
   ⟨[⟨(some 55), .p (.bin .add), [.tmp 50, .tmp 54], none⟩], [⟨(some 58), .r (.load none), [.tmp 57], none⟩,
    ⟨(some 63), .r (.load none), [.tmp 62], none⟩,
    ⟨(some 68), .r (.load none), [.tmp 67], none⟩], some ⟨(some 59), .h (.call 72), [.tmp 58], none⟩⟩,
   ⟨[⟨(some 60), .p (.bin .add), [.tmp 55, .tmp 59], none⟩], [⟨(some 63), .r (.load none), [.tmp 62], none⟩,
    ⟨(some 68), .r (.load none), [.tmp 67], none⟩], some ⟨(some 64), .h (.call 72), [.tmp 63], none⟩⟩,
   ⟨[⟨(some 65), .p (.bin .add), [.tmp 60, .tmp 64], none⟩], [⟨(some 68), .r (.load none), [.tmp 67], none⟩], some ⟨(some 69), .h (.call 46), [.tmp 68], none⟩⟩,
   ⟨[⟨(some 70), .p (.bin .add), [.tmp 65, .tmp 69], none⟩,
    ⟨(some 3), .p .move, [.tmp 70], none⟩], [], none⟩])
  (.seq (.dreg [⟨[⟨(some 71), .p .move, [.tmp 3], none⟩,
    ⟨(some 72), .p (.fieldAddr 9), [.tmp 1], none⟩,
    ⟨(some 73), .p (.fieldAddr 0), [.tmp 72], none⟩,
    ⟨(some 74), .r (.load none), [.tmp 73], none⟩,
    ⟨(some 77), .p (.fieldAddr 9), [.tmp 1], none⟩,
    ⟨(some 78), .p (.fieldAddr 1), [.tmp 77], none⟩,
    ⟨(some 79), .r (.load none), [.tmp 78], none⟩,
    ⟨(some 82), .p (.fieldAddr 9), [.tmp 1], none⟩,
    ⟨(some 83), .p (.fieldAddr 2), [.tmp 82], none⟩,
    ⟨(some 84), .r (.load none), [.tmp 83], none⟩,
    ⟨(some 87), .p (.fieldAddr 9), [.tmp 1], none⟩,
    ⟨(some 88), .p (.fieldAddr 3), [.tmp 87], none⟩,
    ⟨(some 89), .r (.load none), [.tmp 88], none⟩,
    ⟨(some 93), .p (.fieldAddr 9), [.tmp 1], none⟩,
    ⟨(some 94), .p (.fieldAddr 4), [.tmp 93], none⟩,
    ⟨(some 95), .r (.load none), [.tmp 94], none⟩,
    ⟨(some 98), .p (.fieldAddr 9), [.tmp 1], none⟩,
    ⟨(some 99), .p (.fieldAddr 5), [.tmp 98], none⟩,
    ⟨(some 100), .r (.load none), [.tmp 99], none⟩], [], some ⟨(some 75), .h (.call 46), [.tmp 74], none⟩⟩,
   ⟨[⟨(some 76), .p (.bin .add), [.tmp 71, .tmp 75], none⟩], [⟨(some 79), .r (.load none), [.tmp 78], none⟩,
    ⟨(some 84), .r (.load none), [.tmp 83], none⟩,
    ⟨(some 89), .r (.load none), [.tmp 88], none⟩,
    ⟨(some 95), .r (.load none), [.tmp 94], none⟩,
    ⟨(some 100), .r (.load none), [.tmp 99], none⟩], some ⟨(some 80), .h (.call 72), [.tmp 79], none⟩⟩,
   ⟨[⟨(some 81), .p (.bin .add), [.tmp 76, .tmp 80], none⟩], [⟨(some 84), .r (.load none), [.tmp 83], none⟩,
    ⟨(some 89), .r (.load none), [.tmp 88], none⟩,
    ⟨(some 95), .r (.load none), [.tmp 94], none⟩,
    ⟨(some 100), .r (.load none), [.tmp 99], none⟩], some ⟨(some 85), .h (.call 71), [.tmp 84], none⟩⟩,
   ⟨[⟨(some 86), .p (.bin .add), [.tmp 81, .tmp 85], none⟩], [⟨(some 89), .r (.load none), [.tmp 88], none⟩,
    ⟨(some 95), .r (.load none), [.tmp 94], none⟩,
    ⟨(some 100), .r (.load none), [.tmp 99], none⟩], some ⟨(some 90), .h (.call 73), [.tmp 89], none⟩⟩,
   ⟨[], [⟨(some 95), .r (.load none), [.tmp 94], none⟩,
    ⟨(some 100), .r (.load none), [.tmp 99], none⟩], some ⟨(some 91), .h (.call 46), [.tmp 90], none⟩⟩,
   ⟨[⟨(some 92), .p (.bin .add), [.tmp 86, .tmp 91], none⟩], [⟨(some 95), .r (.load none), [.tmp 94], none⟩,
    ⟨(some 100), .r (.load none), [.tmp 99], none⟩], some ⟨(some 96), .h (.call 72), [.tmp 95], none⟩⟩,
   ⟨[⟨(some 97), .p (.bin .add), [.tmp 92, .tmp 96], none⟩], [⟨(some 100), .r (.load none), [.tmp 99], none⟩], some ⟨(some 101), .h (.call 46), [.tmp 100], none⟩⟩,
   ⟨[⟨(some 102), .p (.bin .add), [.tmp 97, .tmp 101], none⟩,
    ⟨(some 2), .p .move, [.tmp 102], none⟩], [], none⟩])
  .ret)))), [.tmp 2]⟩
theorem c47 : cFunc Go.Proofs.Tryd.prog false 1 Go.Proofs.Tryd.f47 = some sf47 := by kernel_rfl

/-- rosary/letter.nums -/
def sf48 : SFunc := ⟨2, 19, (.scope (.seq .skip
  (.seq (.reg [⟨(some 6), .p .move, [.tmp 1], none⟩,
    ⟨(some 7), .p .lenSl, [.tmp 6], none⟩,
    ⟨(some 8), .p .move, [.lit (.int .i64 0)], none⟩])
  (.block 0 (.loop [0, 6, 7, 8] (.seq (.reg [⟨(some 9), .p (.bin .lss), [.tmp 8, .tmp 7], none⟩])
  (.seq (.cond (.tmp 9) .skip
  (.exit 0))
  (.seq (.block 1 (.seq (.reg [⟨(some 10), .p (.indexAddr 1), [.tmp 6, .tmp 8], none⟩,
    ⟨(some 11), .r (.load none), [.tmp 10], none⟩,
    ⟨(some 5), .p .move, [.tmp 11], none⟩])
  (.seq (.reg [⟨(some 12), .p .move, [.tmp 5], none⟩,
    ⟨(some 13), .p .move, [.tmp 0], none⟩,
    ⟨(some 14), .h (.call 59), [.tmp 13], none⟩,
    ⟨(some 15), .p .nilCheck, [.tmp 12], none⟩,
    ⟨none, .h (.store 1), [.tmp 15, .tmp 14], none⟩])
  (.seq (.reg [⟨(some 16), .p .move, [.tmp 0], none⟩,
    ⟨(some 17), .h (.call 49), [.tmp 16], none⟩])
  (.cond (.tmp 17) (.exit 0)
  .skip)))))
  (.reg [⟨(some 18), .p (.bin .add), [.tmp 8, .lit (.int .i64 1)], none⟩,
    ⟨(some 8), .p .move, [.tmp 18], none⟩]))))))))), []⟩
theorem c48 : cFunc Go.Proofs.Tryd.prog false 2 Go.Proofs.Tryd.f48 = some sf48 := by kernel_rfl

/-- (*rosary/pack.Reader).Bad -/
def sf49 : SFunc := ⟨1, 11, (.seq (.reg [⟨(some 2), .p .move, [.lit (.bool false)], none⟩])
  (.seq (.reg [⟨(some 3), .p .move, [.tmp 0], none⟩,
    ⟨(some 4), .p (.eq false .ptr), [.tmp 3, .lit .nilptr], none⟩,
    ⟨(some 5), .p .move, [.tmp 4], none⟩,
    ⟨(some 6), .p .move, [.tmp 0], some (5, false)⟩,
    ⟨(some 7), .p .nilCheck, [.tmp 6], some (5, false)⟩,
    ⟨(some 8), .p (.fieldAddr 1), [.tmp 7], some (5, false)⟩,
    ⟨(some 9), .r (.load none), [.tmp 8], some (5, false)⟩,
    ⟨(some 10), .p .pick, [.tmp 5, .lit (.bool true), .tmp 9], none⟩,
    ⟨(some 2), .p .move, [.tmp 10], none⟩])
  .ret)), [.tmp 2]⟩
theorem c49 : cFunc Go.Proofs.Tryd.prog false 1 Go.Proofs.Tryd.f49 = some sf49 := by kernel_rfl

/-- (*rosary/rosaryref1.Reader).Num -/
def sf50 : SFunc := ⟨1, 14, (.seq (.reg [⟨(some 2), .p .move, [.lit (.int .i64 0)], none⟩])
  (.seq (.reg [⟨(some 4), .p .move, [.tmp 0], none⟩,
    ⟨(some 5), .h (.call 74), [.tmp 4, .lit (.int .i64 2)], none⟩,
    ⟨(some 3), .p .move, [.tmp 5], none⟩])
  (.seq (.dreg [⟨[⟨(some 6), .p .move, [.tmp 3], none⟩,
    ⟨(some 7), .p .indexStr, [.tmp 6, .lit (.int .i64 0)], none⟩,
    ⟨(some 8), .p (.convInt .i64), [.tmp 7], none⟩,
    ⟨(some 9), .p (.bin .mul), [.tmp 8, .lit (.int .i64 256)], none⟩,
    ⟨(some 10), .p .move, [.tmp 3], none⟩,
    ⟨(some 11), .p .indexStr, [.tmp 10, .lit (.int .i64 1)], none⟩,
    ⟨(some 12), .p (.convInt .i64), [.tmp 11], none⟩,
    ⟨(some 13), .p (.bin .add), [.tmp 9, .tmp 12], none⟩,
    ⟨(some 2), .p .move, [.tmp 13], none⟩], [], none⟩])
  .ret))), [.tmp 2]⟩
theorem c50 : cFunc Go.Proofs.Tryd.prog false 1 Go.Proofs.Tryd.f50 = some sf50 := by kernel_rfl

/-- rosary/rosaryref1.Get -/
def sf51 : SFunc := ⟨1, 28, (.seq (.reg [⟨(some 2), .a (.alloc [(.int .i64 0), (.int .i64 0), (.int .i64 0), (.int .i64 0), (.int .i64 0), (.str []), (.str []), (.str []), (.int .i64 0), (.int .i64 0), (.str []), .nilslice, (.bool false), (.str []), (.int .i64 0), (.int .u64 0), (.int .u64 0), (.int .i64 0), .nilslice, (.int .i64 0), (.int .i64 0)]), [], none⟩,
    ⟨(some 3), .p .move, [.lit (.bool false)], none⟩])
  (.seq (.reg [⟨(some 6), .p .move, [.tmp 0], none⟩,
    ⟨(some 7), .p (.build [(.str []), (.bool false)] [(0, 1)]), [.tmp 6], none⟩,
    ⟨(some 8), .a .box, [.tmp 7], none⟩,
    ⟨(some 4), .p .move, [.tmp 8], none⟩])
  (.seq (.reg [⟨(some 9), .p .move, [.tmp 4], none⟩,
    ⟨(some 10), .h (.call 75), [.tmp 9], none⟩,
    ⟨(some 5), .a (.alloc [(.int .i64 0), (.int .i64 0), (.int .i64 0), (.int .i64 0), (.int .i64 0), (.str []), (.str []), (.str []), (.int .i64 0), (.int .i64 0), (.str []), .nilslice, (.bool false), (.str []), (.int .i64 0), (.int .u64 0), (.int .u64 0), (.int .i64 0), .nilslice, (.int .i64 0), (.int .i64 0)]), [], none⟩,
    ⟨none, .h (.store 21), [.tmp 5, .tmp 10], none⟩])
  (.seq (.seq (.reg [⟨(some 11), .p .move, [.tmp 4], none⟩,
    ⟨(some 12), .p .nilCheck, [.tmp 11], none⟩,
    ⟨(some 13), .p (.fieldAddr 1), [.tmp 12], none⟩,
    ⟨(some 14), .r (.load none), [.tmp 13], none⟩,
    ⟨(some 15), .p .move, [.tmp 14], none⟩,
    ⟨(some 16), .r (.load (some 21)), [.tmp 5], some (15, false)⟩,
    ⟨(some 17), .h (.call 44), [.tmp 16], some (15, false)⟩,
    ⟨(some 18), .p .not, [.tmp 17], some (15, false)⟩,
    ⟨(some 19), .p .pick, [.tmp 15, .lit (.bool true), .tmp 18], none⟩,
    ⟨(some 20), .p .move, [.tmp 19], none⟩,
    ⟨(some 21), .r (.load (some 21)), [.tmp 5], some (20, false)⟩,
    ⟨(some 22), .h (.call 47), [.tmp 21], some (20, false)⟩,
    ⟨(some 23), .p .move, [.tmp 0], some (20, false)⟩,
    ⟨(some 24), .p (.bin .neq), [.tmp 22, .tmp 23], some (20, false)⟩,
    ⟨(some 25), .p .pick, [.tmp 20, .lit (.bool true), .tmp 24], none⟩])
  (.cond (.tmp 25) (.seq (.reg [⟨(some 26), .p (.build [(.int .i64 0), (.int .i64 0), (.int .i64 0), (.int .i64 0), (.int .i64 0), (.str []), (.str []), (.str []), (.int .i64 0), (.int .i64 0), (.str []), .nilslice, (.bool false), (.str []), (.int .i64 0), (.int .u64 0), (.int .u64 0), (.int .i64 0), .nilslice, (.int .i64 0), (.int .i64 0)] []), [], none⟩,
    ⟨none, .h (.store 21), [.tmp 2, .tmp 26], none⟩,
    ⟨(some 3), .p .move, [.lit (.bool false)], none⟩])
  .ret)
  .skip))
  (.seq (.reg [⟨(some 27), .r (.load (some 21)), [.tmp 5], none⟩,
    ⟨none, .h (.store 21), [.tmp 2, .tmp 27], none⟩,
    ⟨(some 3), .p .move, [.lit (.bool true)], none⟩])
  .ret))))), [.cell 2 (some 21), .tmp 3]⟩
theorem c51 : cFunc Go.Proofs.Tryd.prog false 1 Go.Proofs.Tryd.f51 = some sf51 := by kernel_rfl

/-- rosary/pack.Num -/
def sf52 : SFunc := ⟨1, 13, (.seq (.reg [⟨(some 2), .p .move, [.lit (.str [])], none⟩,
    ⟨(some 3), .p .move, [.lit (.bool false)], none⟩])
  (.seq (.seq (.reg [⟨(some 4), .p .move, [.tmp 0], none⟩,
    ⟨(some 5), .p (.bin .lss), [.tmp 4, .lit (.int .i64 0)], none⟩,
    ⟨(some 6), .p .move, [.tmp 5], none⟩,
    ⟨(some 7), .p .move, [.tmp 0], some (6, false)⟩,
    ⟨(some 8), .p (.bin .gtr), [.tmp 7, .lit (.int .i64 65535)], some (6, false)⟩,
    ⟨(some 9), .p .pick, [.tmp 6, .lit (.bool true), .tmp 8], none⟩])
  (.cond (.tmp 9) (.seq (.reg [⟨(some 2), .p .move, [.lit (.str [])], none⟩,
    ⟨(some 3), .p .move, [.lit (.bool false)], none⟩])
  .ret)
  .skip))
  (.seq (.reg [⟨(some 10), .p .move, [.tmp 0], none⟩,
    ⟨(some 11), .p (.convInt .u64), [.tmp 10], none⟩,
    ⟨(some 12), .h (.call 54), [.tmp 11, .lit (.int .i64 2)], none⟩,
    ⟨(some 2), .p .move, [.tmp 12], none⟩,
    ⟨(some 3), .p .move, [.lit (.bool true)], none⟩])
  .ret))), [.tmp 2, .tmp 3]⟩
theorem c52 : cFunc Go.Proofs.Tryd.prog false 1 Go.Proofs.Tryd.f52 = some sf52 := by kernel_rfl

/-- rosary/pack.big -/
def sf54 : SFunc := ⟨2, 28, (.seq (.reg [⟨(some 4), .p .move, [.lit (.str [])], none⟩])
  (.seq (.reg [⟨(some 7), .p .move, [.tmp 1], none⟩,
    ⟨(some 8), .a (.makeSlice [(.int .u8 0)]), [.tmp 7, .tmp 7], none⟩,
    ⟨(some 5), .p .move, [.tmp 8], none⟩])
  (.seq (.seq (.reg [⟨(some 9), .p .move, [.tmp 5], none⟩,
    ⟨(some 10), .p .lenSl, [.tmp 9], none⟩,
    ⟨(some 11), .p .move, [.lit (.int .i64 0)], none⟩])
  (.block 0 (.loop [0, 1, 5, 10, 11] (.seq (.reg [⟨(some 12), .p (.bin .lss), [.tmp 11, .tmp 10], none⟩])
  (.seq (.cond (.tmp 12) .skip
  (.exit 0))
  (.seq (.block 1 (.seq (.reg [⟨(some 13), .p .move, [.tmp 11], none⟩,
    ⟨(some 6), .p .move, [.tmp 13], none⟩])
  (.reg [⟨(some 14), .p .move, [.tmp 5], none⟩,
    ⟨(some 15), .p .move, [.tmp 1], none⟩,
    ⟨(some 16), .p (.bin .sub), [.tmp 15, .lit (.int .i64 1)], none⟩,
    ⟨(some 17), .p .move, [.tmp 6], none⟩,
    ⟨(some 18), .p (.bin .sub), [.tmp 16, .tmp 17], none⟩,
    ⟨(some 19), .p .move, [.tmp 0], none⟩,
    ⟨(some 20), .p .move, [.tmp 6], none⟩,
    ⟨(some 21), .p (.bin .mul), [.lit (.int .i64 8), .tmp 20], none⟩,
    ⟨(some 22), .p (.bin .shr), [.tmp 19, .tmp 21], none⟩,
    ⟨(some 23), .p (.convInt .u8), [.tmp 22], none⟩,
    ⟨(some 24), .p (.indexAddr 1), [.tmp 14, .tmp 18], none⟩,
    ⟨none, .h (.store 1), [.tmp 24, .tmp 23], none⟩])))
  (.reg [⟨(some 25), .p (.bin .add), [.tmp 11, .lit (.int .i64 1)], none⟩,
    ⟨(some 11), .p .move, [.tmp 25], none⟩])))))))
  (.seq (.reg [⟨(some 26), .p .move, [.tmp 5], none⟩,
    ⟨(some 27), .r .toStr, [.tmp 26], none⟩,
    ⟨(some 4), .p .move, [.tmp 27], none⟩])
  .ret)))), [.tmp 4]⟩
theorem c54 : cFunc Go.Proofs.Tryd.prog false 2 Go.Proofs.Tryd.f54 = some sf54 := by kernel_rfl

/-- rosary/pack.Text -/
def sf55 : SFunc := ⟨1, 13, (.seq (.reg [⟨(some 2), .p .move, [.lit (.str [])], none⟩,
    ⟨(some 3), .p .move, [.lit (.bool false)], none⟩])
  (.seq (.seq (.reg [⟨(some 4), .p .move, [.tmp 0], none⟩,
    ⟨(some 5), .p .lenStr, [.tmp 4], none⟩,
    ⟨(some 6), .p (.bin .gtr), [.tmp 5, .lit (.int .i64 255)], none⟩])
  (.cond (.tmp 6) (.seq (.reg [⟨(some 2), .p .move, [.lit (.str [])], none⟩,
    ⟨(some 3), .p .move, [.lit (.bool false)], none⟩])
  .ret)
  .skip))
  (.seq (.reg [⟨(some 7), .p .move, [.tmp 0], none⟩,
    ⟨(some 8), .p .lenStr, [.tmp 7], none⟩,
    ⟨(some 9), .p (.convInt .u64), [.tmp 8], none⟩,
    ⟨(some 10), .h (.call 54), [.tmp 9, .lit (.int .i64 1)], none⟩,
    ⟨(some 11), .p .move, [.tmp 0], none⟩,
    ⟨(some 12), .p (.bin .add), [.tmp 10, .tmp 11], none⟩,
    ⟨(some 2), .p .move, [.tmp 12], none⟩,
    ⟨(some 3), .p .move, [.lit (.bool true)], none⟩])
  .ret))), [.tmp 2, .tmp 3]⟩
theorem c55 : cFunc Go.Proofs.Tryd.prog false 1 Go.Proofs.Tryd.f55 = some sf55 := by kernel_rfl

/-- (*rosary/pack.Reader).Wide -/
def sf56 : SFunc := ⟨1, 5, (.seq (.reg [⟨(some 2), .p .move, [.lit (.int .u64 0)], none⟩])
  (.seq (.reg [⟨(some 3), .p .move, [.tmp 0], none⟩,
    ⟨(some 4), .h (.call 77), [.tmp 3, .lit (.int .i64 8)], none⟩,
    ⟨(some 2), .p .move, [.tmp 4], none⟩])
  .ret)), [.tmp 2]⟩
theorem c56 : cFunc Go.Proofs.Tryd.prog false 1 Go.Proofs.Tryd.f56 = some sf56 := by kernel_rfl

/-- rosary/letter.list -/
def sf57 : SFunc := ⟨1, 31, (.seq (.reg [⟨(some 2), .p .move, [.lit .nilslice], none⟩])
  (.scope (.seq (.reg [⟨(some 3), .p .move, [.lit .nilslice], none⟩])
  (.seq .skip
  (.seq (.seq (.reg [⟨(some 7), .p .move, [.tmp 0], none⟩,
    ⟨(some 8), .h (.call 59), [.tmp 7], none⟩,
    ⟨(some 4), .p .move, [.tmp 8], none⟩])
  (.block 0 (.loop [0, 3, 4] (.seq (.seq (.reg [⟨(some 9), .p .move, [.tmp 4], none⟩,
    ⟨(some 10), .p (.bin .gtr), [.tmp 9, .lit (.int .i64 0)], none⟩])
  (.cond (.tmp 10) .skip
  (.exit 0)))
  (.seq (.block 1 (.seq (.reg [⟨(some 13), .p .move, [.tmp 0], none⟩,
    ⟨(some 14), .h (.call 58), [.tmp 13], none⟩,
    ⟨(some 15), .p .move, [.tmp 0], none⟩,
    ⟨(some 16), .h (.call 58), [.tmp 15], none⟩,
    ⟨(some 5), .p .move, [.tmp 14], none⟩,
    ⟨(some 6), .p .move, [.tmp 16], none⟩])
  (.seq (.seq (.reg [⟨(some 17), .p .move, [.tmp 0], none⟩,
    ⟨(some 18), .h (.call 49), [.tmp 17], none⟩,
    ⟨(some 19), .p .move, [.tmp 18], none⟩,
    ⟨(some 20), .p .move, [.tmp 3], some (19, false)⟩,
    ⟨(some 21), .p .lenSl, [.tmp 20], some (19, false)⟩,
    ⟨(some 22), .p (.bin .gtr), [.tmp 21, .lit (.int .i64 40)], some (19, false)⟩,
    ⟨(some 23), .p .pick, [.tmp 19, .lit (.bool true), .tmp 22], none⟩])
  (.cond (.tmp 23) (.exit 0)
  .skip))
  (.reg [⟨(some 24), .p .move, [.tmp 3], none⟩,
    ⟨(some 25), .p .move, [.tmp 5], none⟩,
    ⟨(some 26), .p .move, [.tmp 6], none⟩,
    ⟨(some 27), .p (.build [(.str []), (.str [])] [(0, 1), (1, 1)]), [.tmp 25, .tmp 26], none⟩,
    ⟨(some 28), .a (.buildSlice 2 1 [(.str []), (.str [])] [0]), [.tmp 27], none⟩,
    ⟨(some 29), .h (.append 2 false), [.tmp 24, .tmp 28], none⟩,
    ⟨(some 3), .p .move, [.tmp 29], none⟩]))))
  (.reg [⟨(some 11), .p .move, [.tmp 4], none⟩,
    ⟨(some 12), .p (.bin .sub), [.tmp 11, .lit (.int .i64 1)], none⟩,
    ⟨(some 4), .p .move, [.tmp 12], none⟩]))))))
  (.seq (.reg [⟨(some 30), .p .move, [.tmp 3], none⟩,
    ⟨(some 2), .p .move, [.tmp 30], none⟩])
  .ret)))))), [.tmp 2]⟩
theorem c57 : cFunc Go.Proofs.Tryd.prog false 1 Go.Proofs.Tryd.f57 = some sf57 := by kernel_rfl

/-- (*rosary/pack.Reader).Text -/
def sf58 : SFunc := ⟨1, 8, (.seq (.reg [⟨(some 2), .p .move, [.lit (.str [])], none⟩])
  (.seq (.reg [⟨(some 3), .p .move, [.tmp 0], none⟩,
    ⟨(some 4), .p .move, [.tmp 0], none⟩,
    ⟨(some 5), .h (.call 77), [.tmp 4, .lit (.int .i64 1)], none⟩,
    ⟨(some 6), .p (.convInt .i64), [.tmp 5], none⟩,
    ⟨(some 7), .h (.call 78), [.tmp 3, .tmp 6], none⟩,
    ⟨(some 2), .p .move, [.tmp 7], none⟩])
  .ret)), [.tmp 2]⟩
theorem c58 : cFunc Go.Proofs.Tryd.prog false 1 Go.Proofs.Tryd.f58 = some sf58 := by kernel_rfl

/-- (*rosary/pack.Reader).Num -/
def sf59 : SFunc := ⟨1, 6, (.seq (.reg [⟨(some 2), .p .move, [.lit (.int .i64 0)], none⟩])
  (.seq (.reg [⟨(some 3), .p .move, [.tmp 0], none⟩,
    ⟨(some 4), .h (.call 77), [.tmp 3, .lit (.int .i64 2)], none⟩,
    ⟨(some 5), .p (.convInt .i64), [.tmp 4], none⟩,
    ⟨(some 2), .p .move, [.tmp 5], none⟩])
  .ret)), [.tmp 2]⟩
theorem c59 : cFunc Go.Proofs.Tryd.prog false 1 Go.Proofs.Tryd.f59 = some sf59 := by kernel_rfl

/-- slices.ContainsFunc[[]int,int] -/
def sf62 : SFunc := ⟨2, 9, (.seq (.reg [⟨(some 4), .p .move, [.lit (.bool false)], none⟩])
  (.seq (.reg [⟨(some 5), .p .move, [.tmp 0], none⟩,
    ⟨(some 6), .p .move, [.tmp 1], none⟩,
    ⟨(some 7), .h (.call 80), [.tmp 5, .tmp 6], none⟩,
    ⟨(some 8), .p (.bin .geq), [.tmp 7, .lit (.int .i64 0)], none⟩,
    ⟨(some 4), .p .move, [.tmp 8], none⟩])
  .ret)), [.tmp 4]⟩
theorem c62 : cFunc Go.Proofs.Tryd.prog false 2 Go.Proofs.Tryd.f62 = some sf62 := by kernel_rfl

/-- rosary/letter.small$1 -/
def sf63 : SFunc := ⟨1, 9, (.seq (.reg [⟨(some 2), .p .move, [.lit (.bool false)], none⟩])
  (.seq (.reg [⟨(some 3), .p .move, [.tmp 0], none⟩,
    ⟨(some 4), .p (.bin .lss), [.tmp 3, .lit (.int .i64 0)], none⟩,
    ⟨(some 5), .p .move, [.tmp 4], none⟩,
    ⟨(some 6), .p .move, [.tmp 0], some (5, false)⟩,
    ⟨(some 7), .p (.bin .gtr), [.tmp 6, .lit (.int .i64 255)], some (5, false)⟩,
    ⟨(some 8), .p .pick, [.tmp 5, .lit (.bool true), .tmp 7], none⟩,
    ⟨(some 2), .p .move, [.tmp 8], none⟩])
  .ret)), [.tmp 2]⟩
theorem c63 : cFunc Go.Proofs.Tryd.prog false 1 Go.Proofs.Tryd.f63 = some sf63 := by kernel_rfl

/-- rosary/letter.wide$1 -/
def sf64 : SFunc := ⟨1, 9, (.seq (.reg [⟨(some 2), .p .move, [.lit (.bool false)], none⟩])
  (.seq (.reg [⟨(some 3), .p .move, [.tmp 0], none⟩,
    ⟨(some 4), .p (.bin .lss), [.tmp 3, .lit (.int .i64 0)], none⟩,
    ⟨(some 5), .p .move, [.tmp 4], none⟩,
    ⟨(some 6), .p .move, [.tmp 0], some (5, false)⟩,
    ⟨(some 7), .p (.bin .gtr), [.tmp 6, .lit (.int .i64 65535)], some (5, false)⟩,
    ⟨(some 8), .p .pick, [.tmp 5, .lit (.bool true), .tmp 7], none⟩,
    ⟨(some 2), .p .move, [.tmp 8], none⟩])
  .ret)), [.tmp 2]⟩
theorem c64 : cFunc Go.Proofs.Tryd.prog false 1 Go.Proofs.Tryd.f64 = some sf64 := by kernel_rfl

/-- slices.ContainsFunc[[]string,string] -/
def sf65 : SFunc := ⟨2, 9, (.seq (.reg [⟨(some 4), .p .move, [.lit (.bool false)], none⟩])
  (.seq (.reg [⟨(some 5), .p .move, [.tmp 0], none⟩,
    ⟨(some 6), .p .move, [.tmp 1], none⟩,
    ⟨(some 7), .h (.call 81), [.tmp 5, .tmp 6], none⟩,
    ⟨(some 8), .p (.bin .geq), [.tmp 7, .lit (.int .i64 0)], none⟩,
    ⟨(some 4), .p .move, [.tmp 8], none⟩])
  .ret)), [.tmp 4]⟩
theorem c65 : cFunc Go.Proofs.Tryd.prog false 2 Go.Proofs.Tryd.f65 = some sf65 := by kernel_rfl

/-- rosary/letter.texts$1 -/
def sf66 : SFunc := ⟨1, 6, (.seq (.reg [⟨(some 2), .p .move, [.lit (.bool false)], none⟩])
  (.seq (.reg [⟨(some 3), .p .move, [.tmp 0], none⟩,
    ⟨(some 4), .p .lenStr, [.tmp 3], none⟩,
    ⟨(some 5), .p (.bin .gtr), [.tmp 4, .lit (.int .i64 255)], none⟩,
    ⟨(some 2), .p .move, [.tmp 5], none⟩])
  .ret)), [.tmp 2]⟩
theorem c66 : cFunc Go.Proofs.Tryd.prog false 1 Go.Proofs.Tryd.f66 = some sf66 := by kernel_rfl

/-- slices.ContainsFunc[[]rosary/api.Item,rosary/api.Item] -/
def sf67 : SFunc := ⟨2, 9, (.seq (.reg [⟨(some 4), .p .move, [.lit (.bool false)], none⟩])
  (.seq (.reg [⟨(some 5), .p .move, [.tmp 0], none⟩,
    ⟨(some 6), .p .move, [.tmp 1], none⟩,
    ⟨(some 7), .h (.call 82), [.tmp 5, .tmp 6], none⟩,
    ⟨(some 8), .p (.bin .geq), [.tmp 7, .lit (.int .i64 0)], none⟩,
    ⟨(some 4), .p .move, [.tmp 8], none⟩])
  .ret)), [.tmp 4]⟩
theorem c67 : cFunc Go.Proofs.Tryd.prog false 2 Go.Proofs.Tryd.f67 = some sf67 := by kernel_rfl

/-- rosary/letter.items$1 -/
def sf68 : SFunc := ⟨1, 10, (.seq (.reg [⟨(some 1), .a .box, [.tmp 0], none⟩,
    ⟨(some 2), .p .move, [.lit (.bool false)], none⟩])
  (.seq (.reg [⟨(some 3), .p (.fieldAddr 0), [.tmp 1], none⟩,
    ⟨(some 4), .r (.load none), [.tmp 3], none⟩,
    ⟨(some 5), .p (.fieldAddr 1), [.tmp 1], none⟩,
    ⟨(some 6), .r (.load none), [.tmp 5], none⟩,
    ⟨(some 7), .a (.buildSlice 1 2 [(.str [])] [0, 1]), [.tmp 4, .tmp 6], none⟩,
    ⟨(some 8), .h (.call 39), [.tmp 7], none⟩,
    ⟨(some 9), .p .not, [.tmp 8], none⟩,
    ⟨(some 2), .p .move, [.tmp 9], none⟩])
  .ret)), [.tmp 2]⟩
theorem c68 : cFunc Go.Proofs.Tryd.prog false 1 Go.Proofs.Tryd.f68 = some sf68 := by kernel_rfl

/-- rosary/rosaryref1.lines -/
def sf69 : SFunc := ⟨1, 29, (.seq (.reg [⟨(some 2), .p .move, [.lit (.bool false)], none⟩])
  (.seq (.seq (.reg [⟨(some 3), .p .move, [.lit (.int .i64 0)], none⟩])
  (.block 0 (.loop [0, 3] (.seq (.seq (.reg [⟨(some 4), .p .move, [.tmp 3], none⟩,
    ⟨(some 5), .p .move, [.tmp 0], none⟩,
    ⟨(some 6), .p .lenSl, [.tmp 5], none⟩,
    ⟨(some 7), .p (.bin .lss), [.tmp 4, .tmp 6], none⟩])
  (.cond (.tmp 7) .skip
  (.exit 0)))
  (.seq (.block 1 (.seq (.reg [⟨(some 10), .p .move, [.tmp 0], none⟩,
    ⟨(some 11), .p .move, [.tmp 3], none⟩,
    ⟨(some 12), .p (.indexAddr 2), [.tmp 10, .tmp 11], none⟩,
    ⟨(some 13), .p (.fieldAddr 0), [.tmp 12], none⟩,
    ⟨(some 14), .r (.load none), [.tmp 13], none⟩,
    ⟨(some 15), .p .lenStr, [.tmp 14], none⟩,
    ⟨(some 16), .p (.bin .gtr), [.tmp 15, .lit (.int .i64 255)], none⟩,
    ⟨(some 17), .p .move, [.tmp 16], none⟩,
    ⟨(some 18), .p .move, [.tmp 0], some (17, false)⟩,
    ⟨(some 19), .p .move, [.tmp 3], some (17, false)⟩,
    ⟨(some 20), .p (.indexAddr 2), [.tmp 18, .tmp 19], some (17, false)⟩,
    ⟨(some 21), .p (.fieldAddr 1), [.tmp 20], some (17, false)⟩,
    ⟨(some 22), .r (.load none), [.tmp 21], some (17, false)⟩,
    ⟨(some 23), .p .lenStr, [.tmp 22], some (17, false)⟩,
    ⟨(some 24), .p (.bin .gtr), [.tmp 23, .lit (.int .i64 255)], some (17, false)⟩,
    ⟨(some 25), .p .pick, [.tmp 17, .lit (.bool true), .tmp 24], none⟩])
  (.cond (.tmp 25) (.seq (.reg [⟨(some 2), .p .move, [.lit (.bool false)], none⟩])
  .ret)
  .skip)))
  (.reg [⟨(some 8), .p .move, [.tmp 3], none⟩,
    ⟨(some 9), .p (.bin .add), [.tmp 8, .lit (.int .i64 1)], none⟩,
    ⟨(some 3), .p .move, [.tmp 9], none⟩]))))))
  (.seq (.reg [⟨(some 26), .p .move, [.tmp 0], none⟩,
    ⟨(some 27), .p .lenSl, [.tmp 26], none⟩,
    ⟨(some 28), .p (.bin .leq), [.tmp 27, .lit (.int .i64 40)], none⟩,
    ⟨(some 2), .p .move, [.tmp 28], none⟩])
  .ret))), [.tmp 2]⟩
theorem c69 : cFunc Go.Proofs.Tryd.prog false 1 Go.Proofs.Tryd.f69 = some sf69 := by kernel_rfl

/-- rosary/rosaryref1.Wide -/
def sf70 : SFunc := ⟨1, 20, (.seq (.reg [⟨(some 2), .p .move, [.lit (.str [])], none⟩])
  (.seq (.reg [⟨(some 5), .a (.makeSlice [(.int .u8 0)]), [.lit (.int .i64 8), .lit (.int .i64 8)], none⟩,
    ⟨(some 3), .p .move, [.tmp 5], none⟩])
  (.seq (.seq (.reg [⟨(some 4), .p .move, [.lit (.int .i64 7)], none⟩])
  (.block 0 (.loop [0, 3, 4] (.seq (.seq (.reg [⟨(some 6), .p .move, [.tmp 4], none⟩,
    ⟨(some 7), .p (.bin .geq), [.tmp 6, .lit (.int .i64 0)], none⟩])
  (.cond (.tmp 7) .skip
  (.exit 0)))
  (.seq (.block 1 (.seq (.reg [⟨(some 10), .p .move, [.tmp 3], none⟩,
    ⟨(some 11), .p .move, [.tmp 4], none⟩,
    ⟨(some 12), .p .move, [.tmp 0], none⟩,
    ⟨(some 13), .p (.bin .and), [.tmp 12, .lit (.int .u64 255)], none⟩,
    ⟨(some 14), .p (.convInt .u8), [.tmp 13], none⟩,
    ⟨(some 15), .p (.indexAddr 1), [.tmp 10, .tmp 11], none⟩,
    ⟨none, .h (.store 1), [.tmp 15, .tmp 14], none⟩])
  (.reg [⟨(some 16), .p .move, [.tmp 0], none⟩,
    ⟨(some 17), .p (.bin .quo), [.tmp 16, .lit (.int .u64 256)], none⟩,
    ⟨(some 0), .p .move, [.tmp 17], none⟩])))
  (.reg [⟨(some 8), .p .move, [.tmp 4], none⟩,
    ⟨(some 9), .p (.bin .sub), [.tmp 8, .lit (.int .i64 1)], none⟩,
    ⟨(some 4), .p .move, [.tmp 9], none⟩]))))))
  (.seq (.reg [⟨(some 18), .p .move, [.tmp 3], none⟩,
    ⟨(some 19), .r .toStr, [.tmp 18], none⟩,
    ⟨(some 2), .p .move, [.tmp 19], none⟩])
  .ret)))), [.tmp 2]⟩
theorem c70 : cFunc Go.Proofs.Tryd.prog false 1 Go.Proofs.Tryd.f70 = some sf70 := by kernel_rfl

/-- rosary/rosaryref1.items -/
def sf71 : SFunc := ⟨1, 30, (.seq (.reg [⟨(some 2), .p .move, [.lit (.str [])], none⟩])
  (.seq (.reg [⟨(some 5), .p .move, [.tmp 0], none⟩,
    ⟨(some 6), .p .lenSl, [.tmp 5], none⟩,
    ⟨(some 7), .h (.call 46), [.tmp 6], none⟩,
    ⟨(some 3), .p .move, [.tmp 7], none⟩])
  (.seq (.seq (.reg [⟨(some 4), .p .move, [.lit (.int .i64 0)], none⟩])
  (.block 0 (.loop [0, 3, 4] (.seq (.seq (.reg [⟨(some 8), .p .move, [.tmp 4], none⟩,
    ⟨(some 9), .p .move, [.tmp 0], none⟩,
    ⟨(some 10), .p .lenSl, [.tmp 9], none⟩,
    ⟨(some 11), .p (.bin .lss), [.tmp 8, .tmp 10], none⟩])
  (.cond (.tmp 11) .skip
  (.exit 0)))
  (.seq (.block 1 (.dreg [⟨[⟨(some 14), .p .move, [.tmp 3], none⟩,
    ⟨(some 15), .p .move, [.tmp 0], none⟩,
    ⟨(some 16), .p .move, [.tmp 4], none⟩,
    ⟨(some 17), .p (.indexAddr 2), [.tmp 15, .tmp 16], none⟩,
    ⟨(some 18), .p (.fieldAddr 0), [.tmp 17], none⟩,
    ⟨(some 19), .r (.load none), [.tmp 18], none⟩,
    ⟨(some 22), .p .move, [.tmp 0], none⟩,
    ⟨(some 23), .p .move, [.tmp 4], none⟩,
    ⟨(some 24), .p (.indexAddr 2), [.tmp 22, .tmp 23], none⟩,
    ⟨(some 25), .p (.fieldAddr 1), [.tmp 24], none⟩,
    ⟨(some 26), .r (.load none), [.tmp 25], none⟩], [], some ⟨(some 20), .h (.call 72), [.tmp 19], none⟩⟩,
   ⟨[⟨(some 21), .p (.bin .add), [.tmp 14, .tmp 20], none⟩], [⟨(some 26), .r (.load none), [.tmp 25], none⟩], some ⟨(some 27), .h (.call 72), [.tmp 26], none⟩⟩,
   ⟨[⟨(some 28), .p (.bin .add), [.tmp 21, .tmp 27], none⟩,
    ⟨(some 3), .p .move, [.tmp 28], none⟩], [], none⟩]))
  (.reg [⟨(some 12), .p .move, [.tmp 4], none⟩,
    ⟨(some 13), .p (.bin .add), [.tmp 12, .lit (.int .i64 1)], none⟩,
    ⟨(some 4), .p .move, [.tmp 13], none⟩]))))))
  (.seq (.reg [⟨(some 29), .p .move, [.tmp 3], none⟩,
    ⟨(some 2), .p .move, [.tmp 29], none⟩])
  .ret)))), [.tmp 2]⟩
theorem c71 : cFunc Go.Proofs.Tryd.prog false 1 Go.Proofs.Tryd.f71 = some sf71 := by kernel_rfl

/-- rosary/rosaryref1.Text -/
def sf72 : SFunc := ⟨1, 10, (.seq (.reg [⟨(some 2), .p .move, [.lit (.str [])], none⟩])
  (.seq (.reg [⟨(some 3), .p .move, [.tmp 0], none⟩,
    ⟨(some 4), .p .lenStr, [.tmp 3], none⟩,
    ⟨(some 5), .p (.convInt .u8), [.tmp 4], none⟩,
    ⟨(some 6), .a (.buildSlice 1 1 [(.int .u8 0)] [0]), [.tmp 5], none⟩,
    ⟨(some 7), .r .toStr, [.tmp 6], none⟩,
    ⟨(some 8), .p .move, [.tmp 0], none⟩,
    ⟨(some 9), .p (.bin .add), [.tmp 7, .tmp 8], none⟩,
    ⟨(some 2), .p .move, [.tmp 9], none⟩])
  .ret)), [.tmp 2]⟩
theorem c72 : cFunc Go.Proofs.Tryd.prog false 1 Go.Proofs.Tryd.f72 = some sf72 := by kernel_rfl

/-- rosary/rosaryref1.flag -/
def sf73 : SFunc := ⟨1, 4, (.seq (.reg [⟨(some 2), .p .move, [.lit (.int .i64 0)], none⟩])
  (.seq (.seq (.reg [⟨(some 3), .p .move, [.tmp 0], none⟩])
  (.cond (.tmp 3) (.seq (.reg [⟨(some 2), .p .move, [.lit (.int .i64 1)], none⟩])
  .ret)
  .skip))
  (.seq (.reg [⟨(some 2), .p .move, [.lit (.int .i64 0)], none⟩])
  .ret))), [.tmp 2]⟩
theorem c73 : cFunc Go.Proofs.Tryd.prog false 1 Go.Proofs.Tryd.f73 = some sf73 := by kernel_rfl

/-- (*rosary/rosaryref1.Reader).take -/
def sf74 : SFunc := ⟨2, 41, (.seq (.reg [⟨(some 4), .p .move, [.lit (.str [])], none⟩])
  (.seq (.seq (.reg [⟨(some 6), .p .move, [.tmp 0], none⟩,
    ⟨(some 7), .p .nilCheck, [.tmp 6], none⟩,
    ⟨(some 8), .p (.fieldAddr 1), [.tmp 7], none⟩,
    ⟨(some 9), .r (.load none), [.tmp 8], none⟩,
    ⟨(some 10), .p .move, [.tmp 9], none⟩,
    ⟨(some 11), .p .move, [.tmp 0], some (10, false)⟩,
    ⟨(some 12), .p .nilCheck, [.tmp 11], some (10, false)⟩,
    ⟨(some 13), .p (.fieldAddr 0), [.tmp 12], some (10, false)⟩,
    ⟨(some 14), .r (.load none), [.tmp 13], some (10, false)⟩,
    ⟨(some 15), .p .lenStr, [.tmp 14], some (10, false)⟩,
    ⟨(some 16), .p .move, [.tmp 1], some (10, false)⟩,
    ⟨(some 17), .p (.bin .lss), [.tmp 15, .tmp 16], some (10, false)⟩,
    ⟨(some 18), .p .pick, [.tmp 10, .lit (.bool true), .tmp 17], none⟩])
  (.cond (.tmp 18) (.seq (.reg [⟨(some 19), .p .move, [.tmp 0], none⟩,
    ⟨(some 20), .p .nilCheck, [.tmp 19], none⟩,
    ⟨(some 21), .p (.fieldAddr 1), [.tmp 20], none⟩,
    ⟨none, .h (.store 1), [.tmp 21, .lit (.bool true)], none⟩])
  (.seq (.reg [⟨(some 22), .p .move, [.tmp 1], none⟩,
    ⟨(some 23), .a (.makeSlice [(.int .u8 0)]), [.tmp 22, .tmp 22], none⟩,
    ⟨(some 24), .r .toStr, [.tmp 23], none⟩,
    ⟨(some 4), .p .move, [.tmp 24], none⟩])
  .ret))
  .skip))
  (.seq (.reg [⟨(some 25), .p .move, [.tmp 0], none⟩,
    ⟨(some 26), .p .nilCheck, [.tmp 25], none⟩,
    ⟨(some 27), .p (.fieldAddr 0), [.tmp 26], none⟩,
    ⟨(some 28), .r (.load none), [.tmp 27], none⟩,
    ⟨(some 29), .p .move, [.tmp 1], none⟩,
    ⟨(some 30), .p (.sliceStr false true), [.tmp 28, .tmp 29], none⟩,
    ⟨(some 5), .p .move, [.tmp 30], none⟩])
  (.seq (.reg [⟨(some 31), .p .move, [.tmp 0], none⟩,
    ⟨(some 32), .p .move, [.tmp 0], none⟩,
    ⟨(some 33), .p .nilCheck, [.tmp 32], none⟩,
    ⟨(some 34), .p (.fieldAddr 0), [.tmp 33], none⟩,
    ⟨(some 35), .r (.load none), [.tmp 34], none⟩,
    ⟨(some 36), .p .move, [.tmp 1], none⟩,
    ⟨(some 37), .p (.sliceStr true false), [.tmp 35, .tmp 36], none⟩,
    ⟨(some 38), .p .nilCheck, [.tmp 31], none⟩,
    ⟨(some 39), .p (.fieldAddr 0), [.tmp 38], none⟩,
    ⟨none, .h (.store 1), [.tmp 39, .tmp 37], none⟩])
  (.seq (.reg [⟨(some 40), .p .move, [.tmp 5], none⟩,
    ⟨(some 4), .p .move, [.tmp 40], none⟩])
  .ret))))), [.tmp 4]⟩
theorem c74 : cFunc Go.Proofs.Tryd.prog false 2 Go.Proofs.Tryd.f74 = some sf74 := by kernel_rfl

/-- (*rosary/rosaryref1.Reader).letter -/
def sf75 : SFunc := ⟨1, 82, (.seq (.reg [⟨(some 2), .a (.alloc [(.int .i64 0), (.int .i64 0), (.int .i64 0), (.int .i64 0), (.int .i64 0), (.str []), (.str []), (.str []), (.int .i64 0), (.int .i64 0), (.str []), .nilslice, (.bool false), (.str []), (.int .i64 0), (.int .u64 0), (.int .u64 0), (.int .i64 0), .nilslice, (.int .i64 0), (.int .i64 0)]), [], none⟩])
  (.seq (.reg [⟨(some 3), .a (.alloc [(.int .i64 0), (.int .i64 0), (.int .i64 0), (.int .i64 0), (.int .i64 0), (.str []), (.str []), (.str []), (.int .i64 0), (.int .i64 0), (.str []), .nilslice, (.bool false), (.str []), (.int .i64 0), (.int .u64 0), (.int .u64 0), (.int .i64 0), .nilslice, (.int .i64 0), (.int .i64 0)]), [], none⟩])
  (.seq (.reg [⟨(some 4), .p .move, [.tmp 0], none⟩,
    ⟨(some 5), .h (.call 50), [.tmp 4], none⟩,
    ⟨(some 6), .p .move, [.tmp 0], none⟩,
    ⟨(some 7), .h (.call 50), [.tmp 6], none⟩,
    ⟨(some 8), .p .move, [.tmp 0], none⟩,
    ⟨(some 9), .h (.call 50), [.tmp 8], none⟩,
    ⟨(some 10), .p .move, [.tmp 0], none⟩,
    ⟨(some 11), .h (.call 50), [.tmp 10], none⟩,
    ⟨(some 12), .p .move, [.tmp 0], none⟩,
    ⟨(some 13), .h (.call 50), [.tmp 12], none⟩,
    ⟨(some 14), .p .move, [.tmp 0], none⟩,
    ⟨(some 15), .h (.call 50), [.tmp 14], none⟩,
    ⟨(some 16), .p .move, [.tmp 0], none⟩,
    ⟨(some 17), .h (.call 50), [.tmp 16], none⟩,
    ⟨(some 18), .p (.fieldAddr 0), [.tmp 3], none⟩,
    ⟨none, .h (.store 1), [.tmp 18, .tmp 5], none⟩,
    ⟨(some 19), .p (.fieldAddr 1), [.tmp 3], none⟩,
    ⟨none, .h (.store 1), [.tmp 19, .tmp 7], none⟩,
    ⟨(some 20), .p (.fieldAddr 2), [.tmp 3], none⟩,
    ⟨none, .h (.store 1), [.tmp 20, .tmp 9], none⟩,
    ⟨(some 21), .p (.fieldAddr 3), [.tmp 3], none⟩,
    ⟨none, .h (.store 1), [.tmp 21, .tmp 11], none⟩,
    ⟨(some 22), .p (.fieldAddr 17), [.tmp 3], none⟩,
    ⟨none, .h (.store 1), [.tmp 22, .tmp 13], none⟩,
    ⟨(some 23), .p (.fieldAddr 19), [.tmp 3], none⟩,
    ⟨none, .h (.store 1), [.tmp 23, .tmp 15], none⟩,
    ⟨(some 24), .p (.fieldAddr 20), [.tmp 3], none⟩,
    ⟨none, .h (.store 1), [.tmp 24, .tmp 17], none⟩])
  (.seq (.reg [⟨(some 25), .p .move, [.tmp 0], none⟩,
    ⟨(some 26), .h (.call 83), [.tmp 25], none⟩,
    ⟨(some 27), .p .move, [.tmp 0], none⟩,
    ⟨(some 28), .h (.call 83), [.tmp 27], none⟩,
    ⟨(some 29), .p (.fieldAddr 15), [.tmp 3], none⟩,
    ⟨(some 30), .p (.fieldAddr 0), [.tmp 29], none⟩,
    ⟨none, .h (.store 1), [.tmp 30, .tmp 26], none⟩,
    ⟨(some 31), .p (.fieldAddr 15), [.tmp 3], none⟩,
    ⟨(some 32), .p (.fieldAddr 1), [.tmp 31], none⟩,
    ⟨none, .h (.store 1), [.tmp 32, .tmp 28], none⟩])
  (.seq (.reg [⟨(some 33), .p .move, [.tmp 0], none⟩,
    ⟨(some 34), .h (.call 84), [.tmp 33], none⟩,
    ⟨(some 35), .p (.fieldAddr 18), [.tmp 3], none⟩,
    ⟨none, .h (.store 1), [.tmp 35, .tmp 34], none⟩])
  (.seq (.reg [⟨(some 36), .p .move, [.tmp 0], none⟩,
    ⟨(some 37), .h (.call 50), [.tmp 36], none⟩,
    ⟨(some 38), .p .move, [.tmp 0], none⟩,
    ⟨(some 39), .h (.call 85), [.tmp 38], none⟩,
    ⟨(some 40), .p .move, [.tmp 0], none⟩,
    ⟨(some 41), .h (.call 85), [.tmp 40], none⟩,
    ⟨(some 42), .p .move, [.tmp 0], none⟩,
    ⟨(some 43), .h (.call 85), [.tmp 42], none⟩,
    ⟨(some 44), .p .move, [.tmp 0], none⟩,
    ⟨(some 45), .h (.call 50), [.tmp 44], none⟩,
    ⟨(some 46), .p (.fieldAddr 4), [.tmp 3], none⟩,
    ⟨(some 47), .p (.fieldAddr 0), [.tmp 46], none⟩,
    ⟨none, .h (.store 1), [.tmp 47, .tmp 37], none⟩,
    ⟨(some 48), .p (.fieldAddr 4), [.tmp 3], none⟩,
    ⟨(some 49), .p (.fieldAddr 1), [.tmp 48], none⟩,
    ⟨none, .h (.store 1), [.tmp 49, .tmp 39], none⟩,
    ⟨(some 50), .p (.fieldAddr 4), [.tmp 3], none⟩,
    ⟨(some 51), .p (.fieldAddr 2), [.tmp 50], none⟩,
    ⟨none, .h (.store 1), [.tmp 51, .tmp 41], none⟩,
    ⟨(some 52), .p (.fieldAddr 4), [.tmp 3], none⟩,
    ⟨(some 53), .p (.fieldAddr 3), [.tmp 52], none⟩,
    ⟨none, .h (.store 1), [.tmp 53, .tmp 43], none⟩,
    ⟨(some 54), .p (.fieldAddr 4), [.tmp 3], none⟩,
    ⟨(some 55), .p (.fieldAddr 4), [.tmp 54], none⟩,
    ⟨none, .h (.store 1), [.tmp 55, .tmp 45], none⟩])
  (.seq (.reg [⟨(some 56), .p .move, [.tmp 0], none⟩,
    ⟨(some 57), .h (.call 50), [.tmp 56], none⟩,
    ⟨(some 58), .p .move, [.tmp 0], none⟩,
    ⟨(some 59), .h (.call 85), [.tmp 58], none⟩,
    ⟨(some 60), .p (.fieldAddr 9), [.tmp 3], none⟩,
    ⟨(some 61), .p (.fieldAddr 0), [.tmp 60], none⟩,
    ⟨none, .h (.store 1), [.tmp 61, .tmp 57], none⟩,
    ⟨(some 62), .p (.fieldAddr 9), [.tmp 3], none⟩,
    ⟨(some 63), .p (.fieldAddr 1), [.tmp 62], none⟩,
    ⟨none, .h (.store 1), [.tmp 63, .tmp 59], none⟩])
  (.seq (.reg [⟨(some 64), .p .move, [.tmp 0], none⟩,
    ⟨(some 65), .h (.call 84), [.tmp 64], none⟩,
    ⟨(some 66), .p (.fieldAddr 9), [.tmp 3], none⟩,
    ⟨(some 67), .p (.fieldAddr 2), [.tmp 66], none⟩,
    ⟨none, .h (.store 1), [.tmp 67, .tmp 65], none⟩])
  (.seq (.reg [⟨(some 68), .p .move, [.tmp 0], none⟩,
    ⟨(some 69), .h (.call 50), [.tmp 68], none⟩,
    ⟨(some 70), .p (.bin .eql), [.tmp 69, .lit (.int .i64 1)], none⟩,
    ⟨(some 71), .p .move, [.tmp 0], none⟩,
    ⟨(some 72), .h (.call 85), [.tmp 71], none⟩,
    ⟨(some 73), .p .move, [.tmp 0], none⟩,
    ⟨(some 74), .h (.call 50), [.tmp 73], none⟩,
    ⟨(some 75), .p (.fieldAddr 9), [.tmp 3], none⟩,
    ⟨(some 76), .p (.fieldAddr 3), [.tmp 75], none⟩,
    ⟨none, .h (.store 1), [.tmp 76, .tmp 70], none⟩,
    ⟨(some 77), .p (.fieldAddr 9), [.tmp 3], none⟩,
    ⟨(some 78), .p (.fieldAddr 4), [.tmp 77], none⟩,
    ⟨none, .h (.store 1), [.tmp 78, .tmp 72], none⟩,
    ⟨(some 79), .p (.fieldAddr 9), [.tmp 3], none⟩,
    ⟨(some 80), .p (.fieldAddr 5), [.tmp 79], none⟩,
    ⟨none, .h (.store 1), [.tmp 80, .tmp 74], none⟩])
  (.seq (.reg [⟨(some 81), .r (.load (some 21)), [.tmp 3], none⟩,
    ⟨none, .h (.store 21), [.tmp 2, .tmp 81], none⟩])
  .ret)))))))))), [.cell 2 (some 21)]⟩
theorem c75 : cFunc Go.Proofs.Tryd.prog false 1 Go.Proofs.Tryd.f75 = some sf75 := by kernel_rfl

/-- (*rosary/pack.Reader).number -/
def sf77 : SFunc := ⟨2, 25, (.seq (.reg [⟨(some 4), .p .move, [.lit (.int .u64 0)], none⟩])
  (.scope (.seq (.reg [⟨(some 5), .p .move, [.lit (.int .u64 0)], none⟩])
  (.seq (.reg [⟨(some 8), .p .move, [.tmp 0], none⟩,
    ⟨(some 9), .p .move, [.tmp 1], none⟩,
    ⟨(some 10), .h (.call 78), [.tmp 8, .tmp 9], none⟩,
    ⟨(some 6), .p .move, [.tmp 10], none⟩])
  (.seq .skip
  (.seq (.seq (.reg [⟨(some 7), .p .move, [.lit (.int .i64 0)], none⟩])
  (.block 0 (.loop [5, 6, 7] (.seq (.block 1 (.seq (.seq (.reg [⟨(some 13), .p .move, [.tmp 7], none⟩,
    ⟨(some 14), .p .move, [.tmp 6], none⟩,
    ⟨(some 15), .p .lenStr, [.tmp 14], none⟩,
    ⟨(some 16), .p (.bin .geq), [.tmp 13, .tmp 15], none⟩])
  (.cond (.tmp 16) (.exit 0)
  .skip))
  (.reg [⟨(some 17), .p .move, [.tmp 5], none⟩,
    ⟨(some 18), .p (.bin .shl), [.tmp 17, .lit (.int .u64 8)], none⟩,
    ⟨(some 19), .p .move, [.tmp 6], none⟩,
    ⟨(some 20), .p .move, [.tmp 7], none⟩,
    ⟨(some 21), .p .indexStr, [.tmp 19, .tmp 20], none⟩,
    ⟨(some 22), .p (.convInt .u64), [.tmp 21], none⟩,
    ⟨(some 23), .p (.bin .or), [.tmp 18, .tmp 22], none⟩,
    ⟨(some 5), .p .move, [.tmp 23], none⟩])))
  (.reg [⟨(some 11), .p .move, [.tmp 7], none⟩,
    ⟨(some 12), .p (.bin .add), [.tmp 11, .lit (.int .i64 1)], none⟩,
    ⟨(some 7), .p .move, [.tmp 12], none⟩])))))
  (.seq (.reg [⟨(some 24), .p .move, [.tmp 5], none⟩,
    ⟨(some 4), .p .move, [.tmp 24], none⟩])
  .ret))))))), [.tmp 4]⟩
theorem c77 : cFunc Go.Proofs.Tryd.prog false 2 Go.Proofs.Tryd.f77 = some sf77 := by kernel_rfl

/-- (*rosary/pack.Reader).take -/
def sf78 : SFunc := ⟨2, 41, (.seq (.reg [⟨(some 4), .p .move, [.lit (.str [])], none⟩])
  (.seq (.seq (.reg [⟨(some 6), .p .move, [.tmp 0], none⟩,
    ⟨(some 7), .p (.eq false .ptr), [.tmp 6, .lit .nilptr], none⟩,
    ⟨(some 8), .p .move, [.tmp 7], none⟩,
    ⟨(some 9), .p .move, [.tmp 0], some (8, false)⟩,
    ⟨(some 10), .p .nilCheck, [.tmp 9], some (8, false)⟩,
    ⟨(some 11), .p (.fieldAddr 1), [.tmp 10], some (8, false)⟩,
    ⟨(some 12), .r (.load none), [.tmp 11], some (8, false)⟩,
    ⟨(some 13), .p .pick, [.tmp 8, .lit (.bool true), .tmp 12], none⟩])
  (.cond (.tmp 13) (.seq (.reg [⟨(some 4), .p .move, [.lit (.str [])], none⟩])
  .ret)
  .skip))
  (.seq (.seq (.reg [⟨(some 14), .p .move, [.tmp 1], none⟩,
    ⟨(some 15), .p .move, [.tmp 0], none⟩,
    ⟨(some 16), .p .nilCheck, [.tmp 15], none⟩,
    ⟨(some 17), .p (.fieldAddr 0), [.tmp 16], none⟩,
    ⟨(some 18), .r (.load none), [.tmp 17], none⟩,
    ⟨(some 19), .p .lenStr, [.tmp 18], none⟩,
    ⟨(some 20), .p (.bin .gtr), [.tmp 14, .tmp 19], none⟩])
  (.cond (.tmp 20) (.seq (.reg [⟨(some 21), .p .move, [.tmp 0], none⟩,
    ⟨(some 22), .p .nilCheck, [.tmp 21], none⟩,
    ⟨(some 23), .p (.fieldAddr 1), [.tmp 22], none⟩,
    ⟨none, .h (.store 1), [.tmp 23, .lit (.bool true)], none⟩])
  (.seq (.reg [⟨(some 4), .p .move, [.lit (.str [])], none⟩])
  .ret))
  .skip))
  (.seq (.reg [⟨(some 24), .p .move, [.tmp 0], none⟩,
    ⟨(some 25), .p .nilCheck, [.tmp 24], none⟩,
    ⟨(some 26), .p (.fieldAddr 0), [.tmp 25], none⟩,
    ⟨(some 27), .r (.load none), [.tmp 26], none⟩,
    ⟨(some 28), .p .move, [.tmp 1], none⟩,
    ⟨(some 29), .p (.sliceStr false true), [.tmp 27, .tmp 28], none⟩,
    ⟨(some 5), .p .move, [.tmp 29], none⟩])
  (.seq (.reg [⟨(some 30), .p .move, [.tmp 0], none⟩,
    ⟨(some 31), .p .move, [.tmp 0], none⟩,
    ⟨(some 32), .p .nilCheck, [.tmp 31], none⟩,
    ⟨(some 33), .p (.fieldAddr 0), [.tmp 32], none⟩,
    ⟨(some 34), .r (.load none), [.tmp 33], none⟩,
    ⟨(some 35), .p .move, [.tmp 1], none⟩,
    ⟨(some 36), .p (.sliceStr true false), [.tmp 34, .tmp 35], none⟩,
    ⟨(some 37), .p .nilCheck, [.tmp 30], none⟩,
    ⟨(some 38), .p (.fieldAddr 0), [.tmp 37], none⟩,
    ⟨none, .h (.store 1), [.tmp 38, .tmp 36], none⟩])
  (.seq (.reg [⟨(some 39), .p .move, [.tmp 5], none⟩,
    ⟨(some 40), .h (.call 86), [.tmp 39], none⟩,
    ⟨(some 4), .p .move, [.tmp 40], none⟩])
  .ret)))))), [.tmp 4]⟩
theorem c78 : cFunc Go.Proofs.Tryd.prog false 2 Go.Proofs.Tryd.f78 = some sf78 := by kernel_rfl

/-- unicode.isExcludingLatin -/
def sf79 : SFunc := ⟨2, 59, (.seq (.reg [⟨(some 4), .p .move, [.lit (.bool false)], none⟩])
  (.seq (.reg [⟨(some 8), .p .move, [.tmp 0], none⟩,
    ⟨(some 9), .p .nilCheck, [.tmp 8], none⟩,
    ⟨(some 10), .p (.fieldAddr 0), [.tmp 9], none⟩,
    ⟨(some 11), .r (.load none), [.tmp 10], none⟩,
    ⟨(some 5), .p .move, [.tmp 11], none⟩])
  (.seq (.seq (.reg [⟨(some 12), .p .move, [.tmp 0], none⟩,
    ⟨(some 13), .p .nilCheck, [.tmp 12], none⟩,
    ⟨(some 14), .p (.fieldAddr 2), [.tmp 13], none⟩,
    ⟨(some 15), .r (.load none), [.tmp 14], none⟩,
    ⟨(some 6), .p .move, [.tmp 15], none⟩])
  (.seq (.reg [⟨(some 16), .p .move, [.tmp 5], none⟩,
    ⟨(some 17), .p .lenSl, [.tmp 16], none⟩,
    ⟨(some 18), .p .move, [.tmp 6], none⟩,
    ⟨(some 19), .p (.bin .gtr), [.tmp 17, .tmp 18], none⟩,
    ⟨(some 20), .p .move, [.tmp 19], none⟩,
    ⟨(some 21), .p .move, [.tmp 1], some (20, true)⟩,
    ⟨(some 22), .p (.convInt .u32), [.tmp 21], some (20, true)⟩,
    ⟨(some 23), .p .move, [.tmp 5], some (20, true)⟩,
    ⟨(some 24), .p .move, [.tmp 5], some (20, true)⟩,
    ⟨(some 25), .p .lenSl, [.tmp 24], some (20, true)⟩,
    ⟨(some 26), .p (.bin .sub), [.tmp 25, .lit (.int .i64 1)], some (20, true)⟩,
    ⟨(some 27), .p (.indexAddr 3), [.tmp 23, .tmp 26], some (20, true)⟩,
    ⟨(some 28), .p (.fieldAddr 1), [.tmp 27], some (20, true)⟩,
    ⟨(some 29), .r (.load none), [.tmp 28], some (20, true)⟩,
    ⟨(some 30), .p (.convInt .u32), [.tmp 29], some (20, true)⟩,
    ⟨(some 31), .p (.bin .leq), [.tmp 22, .tmp 30], some (20, true)⟩,
    ⟨(some 32), .p .pick, [.tmp 20, .tmp 31, .lit (.bool false)], none⟩])
  (.cond (.tmp 32) (.seq (.reg [⟨(some 33), .p .move, [.tmp 5], none⟩,
    ⟨(some 34), .p .move, [.tmp 6], none⟩,
    ⟨(some 35), .p (.sliceSl 3 true false false), [.tmp 33, .tmp 34], none⟩,
    ⟨(some 36), .p .move, [.tmp 1], none⟩,
    ⟨(some 37), .p (.convInt .u16), [.tmp 36], none⟩,
    ⟨(some 38), .h (.call 87), [.tmp 35, .tmp 37], none⟩,
    ⟨(some 4), .p .move, [.tmp 38], none⟩])
  .ret)
  .skip)))
  (.seq (.reg [⟨(some 39), .p .move, [.tmp 0], none⟩,
    ⟨(some 40), .p .nilCheck, [.tmp 39], none⟩,
    ⟨(some 41), .p (.fieldAddr 1), [.tmp 40], none⟩,
    ⟨(some 42), .r (.load none), [.tmp 41], none⟩,
    ⟨(some 7), .p .move, [.tmp 42], none⟩])
  (.seq (.seq (.reg [⟨(some 43), .p .move, [.tmp 7], none⟩,
    ⟨(some 44), .p .lenSl, [.tmp 43], none⟩,
    ⟨(some 45), .p (.bin .gtr), [.tmp 44, .lit (.int .i64 0)], none⟩,
    ⟨(some 46), .p .move, [.tmp 45], none⟩,
    ⟨(some 47), .p .move, [.tmp 1], some (46, true)⟩,
    ⟨(some 48), .p .move, [.tmp 7], some (46, true)⟩,
    ⟨(some 49), .p (.indexAddr 3), [.tmp 48, .lit (.int .i64 0)], some (46, true)⟩,
    ⟨(some 50), .p (.fieldAddr 0), [.tmp 49], some (46, true)⟩,
    ⟨(some 51), .r (.load none), [.tmp 50], some (46, true)⟩,
    ⟨(some 52), .p (.convInt .i32), [.tmp 51], some (46, true)⟩,
    ⟨(some 53), .p (.bin .geq), [.tmp 47, .tmp 52], some (46, true)⟩,
    ⟨(some 54), .p .pick, [.tmp 46, .tmp 53, .lit (.bool false)], none⟩])
  (.cond (.tmp 54) (.seq (.reg [⟨(some 55), .p .move, [.tmp 7], none⟩,
    ⟨(some 56), .p .move, [.tmp 1], none⟩,
    ⟨(some 57), .p (.convInt .u32), [.tmp 56], none⟩,
    ⟨(some 58), .h (.call 88), [.tmp 55, .tmp 57], none⟩,
    ⟨(some 4), .p .move, [.tmp 58], none⟩])
  .ret)
  .skip))
  (.seq (.reg [⟨(some 4), .p .move, [.lit (.bool false)], none⟩])
  .ret)))))), [.tmp 4]⟩
theorem c79 : cFunc Go.Proofs.Tryd.prog false 2 Go.Proofs.Tryd.f79 = some sf79 := by kernel_rfl

/-- slices.IndexFunc[[]int,int] -/
def sf80 : SFunc := ⟨2, 19, (.seq (.reg [⟨(some 4), .p .move, [.lit (.int .i64 0)], none⟩])
  (.seq (.seq (.reg [⟨(some 6), .p .move, [.tmp 0], none⟩,
    ⟨(some 7), .p .lenSl, [.tmp 6], none⟩,
    ⟨(some 8), .p .move, [.lit (.int .i64 0)], none⟩])
  (.block 0 (.loop [0, 1, 7, 8] (.seq (.reg [⟨(some 9), .p (.bin .lss), [.tmp 8, .tmp 7], none⟩])
  (.seq (.cond (.tmp 9) .skip
  (.exit 0))
  (.seq (.block 1 (.seq (.reg [⟨(some 10), .p .move, [.tmp 8], none⟩,
    ⟨(some 5), .p .move, [.tmp 10], none⟩])
  (.seq (.reg [⟨(some 11), .p .move, [.tmp 1], none⟩,
    ⟨(some 12), .p .move, [.tmp 0], none⟩,
    ⟨(some 13), .p .move, [.tmp 5], none⟩,
    ⟨(some 14), .p (.indexAddr 1), [.tmp 12, .tmp 13], none⟩,
    ⟨(some 15), .r (.load none), [.tmp 14], none⟩,
    ⟨(some 16), .h .callV, [.tmp 11, .tmp 15], none⟩])
  (.cond (.tmp 16) (.seq (.reg [⟨(some 17), .p .move, [.tmp 5], none⟩,
    ⟨(some 4), .p .move, [.tmp 17], none⟩])
  .ret)
  .skip))))
  (.reg [⟨(some 18), .p (.bin .add), [.tmp 8, .lit (.int .i64 1)], none⟩,
    ⟨(some 8), .p .move, [.tmp 18], none⟩])))))))
  (.seq (.reg [⟨(some 4), .p .move, [.lit (.int .i64 (-1))], none⟩])
  .ret))), [.tmp 4]⟩
theorem c80 : cFunc Go.Proofs.Tryd.prog false 2 Go.Proofs.Tryd.f80 = some sf80 := by kernel_rfl

/-- slices.IndexFunc[[]string,string] -/
def sf81 : SFunc := ⟨2, 19, (.seq (.reg [⟨(some 4), .p .move, [.lit (.int .i64 0)], none⟩])
  (.seq (.seq (.reg [⟨(some 6), .p .move, [.tmp 0], none⟩,
    ⟨(some 7), .p .lenSl, [.tmp 6], none⟩,
    ⟨(some 8), .p .move, [.lit (.int .i64 0)], none⟩])
  (.block 0 (.loop [0, 1, 7, 8] (.seq (.reg [⟨(some 9), .p (.bin .lss), [.tmp 8, .tmp 7], none⟩])
  (.seq (.cond (.tmp 9) .skip
  (.exit 0))
  (.seq (.block 1 (.seq (.reg [⟨(some 10), .p .move, [.tmp 8], none⟩,
    ⟨(some 5), .p .move, [.tmp 10], none⟩])
  (.seq (.reg [⟨(some 11), .p .move, [.tmp 1], none⟩,
    ⟨(some 12), .p .move, [.tmp 0], none⟩,
    ⟨(some 13), .p .move, [.tmp 5], none⟩,
    ⟨(some 14), .p (.indexAddr 1), [.tmp 12, .tmp 13], none⟩,
    ⟨(some 15), .r (.load none), [.tmp 14], none⟩,
    ⟨(some 16), .h .callV, [.tmp 11, .tmp 15], none⟩])
  (.cond (.tmp 16) (.seq (.reg [⟨(some 17), .p .move, [.tmp 5], none⟩,
    ⟨(some 4), .p .move, [.tmp 17], none⟩])
  .ret)
  .skip))))
  (.reg [⟨(some 18), .p (.bin .add), [.tmp 8, .lit (.int .i64 1)], none⟩,
    ⟨(some 8), .p .move, [.tmp 18], none⟩])))))))
  (.seq (.reg [⟨(some 4), .p .move, [.lit (.int .i64 (-1))], none⟩])
  .ret))), [.tmp 4]⟩
theorem c81 : cFunc Go.Proofs.Tryd.prog false 2 Go.Proofs.Tryd.f81 = some sf81 := by kernel_rfl

/-- slices.IndexFunc[[]rosary/api.Item,rosary/api.Item] -/
def sf82 : SFunc := ⟨2, 19, (.seq (.reg [⟨(some 4), .p .move, [.lit (.int .i64 0)], none⟩])
  (.seq (.seq (.reg [⟨(some 6), .p .move, [.tmp 0], none⟩,
    ⟨(some 7), .p .lenSl, [.tmp 6], none⟩,
    ⟨(some 8), .p .move, [.lit (.int .i64 0)], none⟩])
  (.block 0 (.loop [0, 1, 7, 8] (.seq (.reg [⟨(some 9), .p (.bin .lss), [.tmp 8, .tmp 7], none⟩])
  (.seq (.cond (.tmp 9) .skip
  (.exit 0))
  (.seq (.block 1 (.seq (.reg [⟨(some 10), .p .move, [.tmp 8], none⟩,
    ⟨(some 5), .p .move, [.tmp 10], none⟩])
  (.seq (.reg [⟨(some 11), .p .move, [.tmp 1], none⟩,
    ⟨(some 12), .p .move, [.tmp 0], none⟩,
    ⟨(some 13), .p .move, [.tmp 5], none⟩,
    ⟨(some 14), .p (.indexAddr 2), [.tmp 12, .tmp 13], none⟩,
    ⟨(some 15), .r (.load (some 2)), [.tmp 14], none⟩,
    ⟨(some 16), .h .callV, [.tmp 11, .tmp 15], none⟩])
  (.cond (.tmp 16) (.seq (.reg [⟨(some 17), .p .move, [.tmp 5], none⟩,
    ⟨(some 4), .p .move, [.tmp 17], none⟩])
  .ret)
  .skip))))
  (.reg [⟨(some 18), .p (.bin .add), [.tmp 8, .lit (.int .i64 1)], none⟩,
    ⟨(some 8), .p .move, [.tmp 18], none⟩])))))))
  (.seq (.reg [⟨(some 4), .p .move, [.lit (.int .i64 (-1))], none⟩])
  .ret))), [.tmp 4]⟩
theorem c82 : cFunc Go.Proofs.Tryd.prog false 2 Go.Proofs.Tryd.f82 = some sf82 := by kernel_rfl

/-- (*rosary/rosaryref1.Reader).Wide -/
def sf83 : SFunc := ⟨1, 12, (.seq (.reg [⟨(some 2), .p .move, [.lit (.int .u64 0)], none⟩])
  (.seq (.reg [⟨(some 4), .p .move, [.tmp 0], none⟩,
    ⟨(some 5), .h (.call 74), [.tmp 4, .lit (.int .i64 8)], none⟩,
    ⟨(some 3), .p .move, [.tmp 5], none⟩])
  (.seq (.seq (.reg [⟨(some 6), .p .move, [.tmp 0], none⟩,
    ⟨(some 7), .p .nilCheck, [.tmp 6], none⟩,
    ⟨(some 8), .p (.fieldAddr 1), [.tmp 7], none⟩,
    ⟨(some 9), .r (.load none), [.tmp 8], none⟩])
  (.cond (.tmp 9) (.seq (.reg [⟨(some 2), .p .move, [.lit (.int .u64 0)], none⟩])
  .ret)
  .skip))
  (.seq (.reg [⟨(some 10), .p .move, [.tmp 3], none⟩,
    ⟨(some 11), .h (.call 89), [.tmp 10], none⟩,
    ⟨(some 2), .p .move, [.tmp 11], none⟩])
  .ret)))), [.tmp 2]⟩
theorem c83 : cFunc Go.Proofs.Tryd.prog false 1 Go.Proofs.Tryd.f83 = some sf83 := by kernel_rfl

/-- (*rosary/rosaryref1.Reader).items -/
def sf84 : SFunc := ⟨1, 29, (.seq (.reg [⟨(some 2), .p .move, [.lit .nilslice], none⟩])
  (.seq (.reg [⟨(some 6), .p .move, [.tmp 0], none⟩,
    ⟨(some 7), .h (.call 50), [.tmp 6], none⟩,
    ⟨(some 3), .p .move, [.tmp 7], none⟩])
  (.seq (.reg [⟨(some 4), .p .move, [.lit .nilslice], none⟩])
  (.seq (.seq (.reg [⟨(some 5), .p .move, [.lit (.int .i64 0)], none⟩])
  (.block 0 (.loop [0, 3, 4, 5] (.seq (.seq (.reg [⟨(some 8), .p .move, [.tmp 5], none⟩,
    ⟨(some 9), .p .move, [.tmp 3], none⟩,
    ⟨(some 10), .p (.bin .lss), [.tmp 8, .tmp 9], none⟩,
    ⟨(some 11), .p .move, [.tmp 10], none⟩,
    ⟨(some 12), .p .move, [.tmp 0], some (11, true)⟩,
    ⟨(some 13), .p .nilCheck, [.tmp 12], some (11, true)⟩,
    ⟨(some 14), .p (.fieldAddr 1), [.tmp 13], some (11, true)⟩,
    ⟨(some 15), .r (.load none), [.tmp 14], some (11, true)⟩,
    ⟨(some 16), .p .not, [.tmp 15], some (11, true)⟩,
    ⟨(some 17), .p .pick, [.tmp 11, .tmp 16, .lit (.bool false)], none⟩])
  (.cond (.tmp 17) .skip
  (.exit 0)))
  (.seq (.block 1 (.reg [⟨(some 20), .p .move, [.tmp 4], none⟩,
    ⟨(some 21), .p .move, [.tmp 0], none⟩,
    ⟨(some 22), .h (.call 85), [.tmp 21], none⟩,
    ⟨(some 23), .p .move, [.tmp 0], none⟩,
    ⟨(some 24), .h (.call 85), [.tmp 23], none⟩,
    ⟨(some 25), .p (.build [(.str []), (.str [])] [(0, 1), (1, 1)]), [.tmp 22, .tmp 24], none⟩,
    ⟨(some 26), .a (.buildSlice 2 1 [(.str []), (.str [])] [0]), [.tmp 25], none⟩,
    ⟨(some 27), .h (.append 2 false), [.tmp 20, .tmp 26], none⟩,
    ⟨(some 4), .p .move, [.tmp 27], none⟩]))
  (.reg [⟨(some 18), .p .move, [.tmp 5], none⟩,
    ⟨(some 19), .p (.bin .add), [.tmp 18, .lit (.int .i64 1)], none⟩,
    ⟨(some 5), .p .move, [.tmp 19], none⟩]))))))
  (.seq (.reg [⟨(some 28), .p .move, [.tmp 4], none⟩,
    ⟨(some 2), .p .move, [.tmp 28], none⟩])
  .ret))))), [.tmp 2]⟩
theorem c84 : cFunc Go.Proofs.Tryd.prog false 1 Go.Proofs.Tryd.f84 = some sf84 := by kernel_rfl

/-- (*rosary/rosaryref1.Reader).Text -/
def sf85 : SFunc := ⟨1, 17, (.seq (.reg [⟨(some 2), .p .move, [.lit (.str [])], none⟩])
  (.seq (.reg [⟨(some 5), .p .move, [.tmp 0], none⟩,
    ⟨(some 6), .h (.call 74), [.tmp 5, .lit (.int .i64 1)], none⟩,
    ⟨(some 7), .p .indexStr, [.tmp 6, .lit (.int .i64 0)], none⟩,
    ⟨(some 8), .p (.convInt .i64), [.tmp 7], none⟩,
    ⟨(some 3), .p .move, [.tmp 8], none⟩])
  (.seq (.reg [⟨(some 9), .p .move, [.tmp 0], none⟩,
    ⟨(some 10), .p .move, [.tmp 3], none⟩,
    ⟨(some 11), .h (.call 74), [.tmp 9, .tmp 10], none⟩,
    ⟨(some 4), .p .move, [.tmp 11], none⟩])
  (.seq (.seq (.reg [⟨(some 12), .p .move, [.tmp 0], none⟩,
    ⟨(some 13), .p .nilCheck, [.tmp 12], none⟩,
    ⟨(some 14), .p (.fieldAddr 1), [.tmp 13], none⟩,
    ⟨(some 15), .r (.load none), [.tmp 14], none⟩])
  (.cond (.tmp 15) (.seq (.reg [⟨(some 2), .p .move, [.lit (.str [])], none⟩])
  .ret)
  .skip))
  (.seq (.reg [⟨(some 16), .p .move, [.tmp 4], none⟩,
    ⟨(some 2), .p .move, [.tmp 16], none⟩])
  .ret))))), [.tmp 2]⟩
theorem c85 : cFunc Go.Proofs.Tryd.prog false 1 Go.Proofs.Tryd.f85 = some sf85 := by kernel_rfl

/-- strings.Clone -/
def sf86 : SFunc := ⟨1, 5, (.seq (.reg [⟨(some 2), .p .move, [.lit (.str [])], none⟩])
  (.seq (.reg [⟨(some 3), .p .move, [.tmp 0], none⟩,
    ⟨(some 4), .h (.call 90), [.tmp 3], none⟩,
    ⟨(some 2), .p .move, [.tmp 4], none⟩])
  .ret)), [.tmp 2]⟩
theorem c86 : cFunc Go.Proofs.Tryd.prog false 1 Go.Proofs.Tryd.f86 = some sf86 := by kernel_rfl

/-- unicode.is16 -/
def sf87 : SFunc := ⟨2, 114, (.seq (.reg [⟨(some 4), .p .move, [.lit (.bool false)], none⟩])
  (.seq (.seq (.reg [⟨(some 11), .p .move, [.tmp 0], none⟩,
    ⟨(some 12), .p .lenSl, [.tmp 11], none⟩,
    ⟨(some 13), .p (.bin .leq), [.tmp 12, .lit (.int .i64 18)], none⟩,
    ⟨(some 14), .p .move, [.tmp 13], none⟩,
    ⟨(some 15), .p .move, [.tmp 1], some (14, false)⟩,
    ⟨(some 16), .p (.bin .leq), [.tmp 15, .lit (.int .u16 255)], some (14, false)⟩,
    ⟨(some 17), .p .pick, [.tmp 14, .lit (.bool true), .tmp 16], none⟩])
  (.cond (.tmp 17) (.seq (.seq (.reg [⟨(some 18), .p .move, [.tmp 0], none⟩,
    ⟨(some 19), .p .lenSl, [.tmp 18], none⟩,
    ⟨(some 20), .p .move, [.lit (.int .i64 0)], none⟩])
  (.block 0 (.loop [0, 1, 19, 20] (.seq (.reg [⟨(some 21), .p (.bin .lss), [.tmp 20, .tmp 19], none⟩])
  (.seq (.cond (.tmp 21) .skip
  (.exit 0))
  (.seq (.block 1 (.seq (.reg [⟨(some 22), .p .move, [.tmp 20], none⟩,
    ⟨(some 5), .p .move, [.tmp 22], none⟩])
  (.seq (.reg [⟨(some 23), .p .move, [.tmp 0], none⟩,
    ⟨(some 24), .p .move, [.tmp 5], none⟩,
    ⟨(some 25), .p (.indexAddr 3), [.tmp 23, .tmp 24], none⟩,
    ⟨(some 6), .p .move, [.tmp 25], none⟩])
  (.seq (.seq (.reg [⟨(some 26), .p .move, [.tmp 1], none⟩,
    ⟨(some 27), .p .move, [.tmp 6], none⟩,
    ⟨(some 28), .p .nilCheck, [.tmp 27], none⟩,
    ⟨(some 29), .p (.fieldAddr 0), [.tmp 28], none⟩,
    ⟨(some 30), .r (.load none), [.tmp 29], none⟩,
    ⟨(some 31), .p (.bin .lss), [.tmp 26, .tmp 30], none⟩])
  (.cond (.tmp 31) (.seq (.reg [⟨(some 4), .p .move, [.lit (.bool false)], none⟩])
  .ret)
  .skip))
  (.seq (.reg [⟨(some 32), .p .move, [.tmp 1], none⟩,
    ⟨(some 33), .p .move, [.tmp 6], none⟩,
    ⟨(some 34), .p .nilCheck, [.tmp 33], none⟩,
    ⟨(some 35), .p (.fieldAddr 1), [.tmp 34], none⟩,
    ⟨(some 36), .r (.load none), [.tmp 35], none⟩,
    ⟨(some 37), .p (.bin .leq), [.tmp 32, .tmp 36], none⟩])
  (.cond (.tmp 37) (.seq (.dreg [⟨[⟨(some 38), .p .move, [.tmp 6], none⟩,
    ⟨(some 39), .p .nilCheck, [.tmp 38], none⟩,
    ⟨(some 40), .p (.fieldAddr 2), [.tmp 39], none⟩,
    ⟨(some 41), .r (.load none), [.tmp 40], none⟩,
    ⟨(some 42), .p (.bin .eql), [.tmp 41, .lit (.int .u16 1)], none⟩,
    ⟨(some 43), .p .move, [.tmp 42], none⟩,
    ⟨(some 44), .p .move, [.tmp 1], some (43, false)⟩,
    ⟨(some 45), .p .move, [.tmp 6], some (43, false)⟩,
    ⟨(some 46), .p .nilCheck, [.tmp 45], some (43, false)⟩,
    ⟨(some 47), .p (.fieldAddr 0), [.tmp 46], some (43, false)⟩,
    ⟨(some 48), .r (.load none), [.tmp 47], some (43, false)⟩,
    ⟨(some 49), .p (.bin .sub), [.tmp 44, .tmp 48], some (43, false)⟩,
    ⟨(some 50), .p .move, [.tmp 6], some (43, false)⟩,
    ⟨(some 51), .p .nilCheck, [.tmp 50], some (43, false)⟩,
    ⟨(some 52), .p (.fieldAddr 2), [.tmp 51], some (43, false)⟩,
    ⟨(some 53), .r (.load none), [.tmp 52], some (43, false)⟩,
    ⟨(some 54), .p (.bin .rem), [.tmp 49, .tmp 53], some (43, false)⟩,
    ⟨(some 55), .p (.bin .eql), [.tmp 54, .lit (.int .u16 0)], some (43, false)⟩,
    ⟨(some 56), .p .pick, [.tmp 43, .lit (.bool true), .tmp 55], none⟩,
    ⟨(some 4), .p .move, [.tmp 56], none⟩], [], none⟩])
  .ret)
  .skip))))))
  (.reg [⟨(some 57), .p (.bin .add), [.tmp 20, .lit (.int .i64 1)], none⟩,
    ⟨(some 20), .p .move, [.tmp 57], none⟩])))))))
  (.seq (.reg [⟨(some 4), .p .move, [.lit (.bool false)], none⟩])
  .ret))
  .skip))
  (.seq (.reg [⟨(some 7), .p .move, [.lit (.int .i64 0)], none⟩])
  (.seq (.reg [⟨(some 58), .p .move, [.tmp 0], none⟩,
    ⟨(some 59), .p .lenSl, [.tmp 58], none⟩,
    ⟨(some 8), .p .move, [.tmp 59], none⟩])
  (.seq (.block 2 (.loop [0, 1, 7, 8] (.seq (.seq (.reg [⟨(some 60), .p .move, [.tmp 7], none⟩,
    ⟨(some 61), .p .move, [.tmp 8], none⟩,
    ⟨(some 62), .p (.bin .lss), [.tmp 60, .tmp 61], none⟩])
  (.cond (.tmp 62) .skip
  (.exit 2)))
  (.block 3 (.seq (.reg [⟨(some 63), .p .move, [.tmp 7], none⟩,
    ⟨(some 64), .p .move, [.tmp 8], none⟩,
    ⟨(some 65), .p (.bin .add), [.tmp 63, .tmp 64], none⟩,
    ⟨(some 66), .p (.convInt .u64), [.tmp 65], none⟩,
    ⟨(some 67), .p (.bin .shr), [.tmp 66, .lit (.int .u64 1)], none⟩,
    ⟨(some 68), .p (.convInt .i64), [.tmp 67], none⟩,
    ⟨(some 9), .p .move, [.tmp 68], none⟩])
  (.seq (.reg [⟨(some 69), .p .move, [.tmp 0], none⟩,
    ⟨(some 70), .p .move, [.tmp 9], none⟩,
    ⟨(some 71), .p (.indexAddr 3), [.tmp 69, .tmp 70], none⟩,
    ⟨(some 10), .p .move, [.tmp 71], none⟩])
  (.seq (.seq (.reg [⟨(some 72), .p .move, [.tmp 10], none⟩,
    ⟨(some 73), .p .nilCheck, [.tmp 72], none⟩,
    ⟨(some 74), .p (.fieldAddr 0), [.tmp 73], none⟩,
    ⟨(some 75), .r (.load none), [.tmp 74], none⟩,
    ⟨(some 76), .p .move, [.tmp 1], none⟩,
    ⟨(some 77), .p (.bin .leq), [.tmp 75, .tmp 76], none⟩,
    ⟨(some 78), .p .move, [.tmp 77], none⟩,
    ⟨(some 79), .p .move, [.tmp 1], some (78, true)⟩,
    ⟨(some 80), .p .move, [.tmp 10], some (78, true)⟩,
    ⟨(some 81), .p .nilCheck, [.tmp 80], some (78, true)⟩,
    ⟨(some 82), .p (.fieldAddr 1), [.tmp 81], some (78, true)⟩,
    ⟨(some 83), .r (.load none), [.tmp 82], some (78, true)⟩,
    ⟨(some 84), .p (.bin .leq), [.tmp 79, .tmp 83], some (78, true)⟩,
    ⟨(some 85), .p .pick, [.tmp 78, .tmp 84, .lit (.bool false)], none⟩])
  (.cond (.tmp 85) (.seq (.dreg [⟨[⟨(some 86), .p .move, [.tmp 10], none⟩,
    ⟨(some 87), .p .nilCheck, [.tmp 86], none⟩,
    ⟨(some 88), .p (.fieldAddr 2), [.tmp 87], none⟩,
    ⟨(some 89), .r (.load none), [.tmp 88], none⟩,
    ⟨(some 90), .p (.bin .eql), [.tmp 89, .lit (.int .u16 1)], none⟩,
    ⟨(some 91), .p .move, [.tmp 90], none⟩,
    ⟨(some 92), .p .move, [.tmp 1], some (91, false)⟩,
    ⟨(some 93), .p .move, [.tmp 10], some (91, false)⟩,
    ⟨(some 94), .p .nilCheck, [.tmp 93], some (91, false)⟩,
    ⟨(some 95), .p (.fieldAddr 0), [.tmp 94], some (91, false)⟩,
    ⟨(some 96), .r (.load none), [.tmp 95], some (91, false)⟩,
    ⟨(some 97), .p (.bin .sub), [.tmp 92, .tmp 96], some (91, false)⟩,
    ⟨(some 98), .p .move, [.tmp 10], some (91, false)⟩,
    ⟨(some 99), .p .nilCheck, [.tmp 98], some (91, false)⟩,
    ⟨(some 100), .p (.fieldAddr 2), [.tmp 99], some (91, false)⟩,
    ⟨(some 101), .r (.load none), [.tmp 100], some (91, false)⟩,
    ⟨(some 102), .p (.bin .rem), [.tmp 97, .tmp 101], some (91, false)⟩,
    ⟨(some 103), .p (.bin .eql), [.tmp 102, .lit (.int .u16 0)], some (91, false)⟩,
    ⟨(some 104), .p .pick, [.tmp 91, .lit (.bool true), .tmp 103], none⟩,
    ⟨(some 4), .p .move, [.tmp 104], none⟩], [], none⟩])
  .ret)
  .skip))
  (.seq (.reg [⟨(some 105), .p .move, [.tmp 1], none⟩,
    ⟨(some 106), .p .move, [.tmp 10], none⟩,
    ⟨(some 107), .p .nilCheck, [.tmp 106], none⟩,
    ⟨(some 108), .p (.fieldAddr 0), [.tmp 107], none⟩,
    ⟨(some 109), .r (.load none), [.tmp 108], none⟩,
    ⟨(some 110), .p (.bin .lss), [.tmp 105, .tmp 109], none⟩])
  (.cond (.tmp 110) (.reg [⟨(some 111), .p .move, [.tmp 9], none⟩,
    ⟨(some 8), .p .move, [.tmp 111], none⟩])
  (.reg [⟨(some 112), .p .move, [.tmp 9], none⟩,
    ⟨(some 113), .p (.bin .add), [.tmp 112, .lit (.int .i64 1)], none⟩,
    ⟨(some 7), .p .move, [.tmp 113], none⟩]))))))))))
  (.seq (.reg [⟨(some 4), .p .move, [.lit (.bool false)], none⟩])
  .ret)))))), [.tmp 4]⟩
theorem c87 : cFunc Go.Proofs.Tryd.prog false 2 Go.Proofs.Tryd.f87 = some sf87 := by kernel_rfl

/-- unicode.is32 -/
def sf88 : SFunc := ⟨2, 99, (.seq (.reg [⟨(some 4), .p .move, [.lit (.bool false)], none⟩])
  (.seq (.seq (.reg [⟨(some 11), .p .move, [.tmp 0], none⟩,
    ⟨(some 12), .p .lenSl, [.tmp 11], none⟩,
    ⟨(some 13), .p (.bin .leq), [.tmp 12, .lit (.int .i64 18)], none⟩])
  (.cond (.tmp 13) (.seq (.seq (.reg [⟨(some 14), .p .move, [.tmp 0], none⟩,
    ⟨(some 15), .p .lenSl, [.tmp 14], none⟩,
    ⟨(some 16), .p .move, [.lit (.int .i64 0)], none⟩])
  (.block 0 (.loop [0, 1, 15, 16] (.seq (.reg [⟨(some 17), .p (.bin .lss), [.tmp 16, .tmp 15], none⟩])
  (.seq (.cond (.tmp 17) .skip
  (.exit 0))
  (.seq (.block 1 (.seq (.reg [⟨(some 18), .p .move, [.tmp 16], none⟩,
    ⟨(some 5), .p .move, [.tmp 18], none⟩])
  (.seq (.reg [⟨(some 19), .p .move, [.tmp 0], none⟩,
    ⟨(some 20), .p .move, [.tmp 5], none⟩,
    ⟨(some 21), .p (.indexAddr 3), [.tmp 19, .tmp 20], none⟩,
    ⟨(some 6), .p .move, [.tmp 21], none⟩])
  (.seq (.seq (.reg [⟨(some 22), .p .move, [.tmp 1], none⟩,
    ⟨(some 23), .p .move, [.tmp 6], none⟩,
    ⟨(some 24), .p .nilCheck, [.tmp 23], none⟩,
    ⟨(some 25), .p (.fieldAddr 0), [.tmp 24], none⟩,
    ⟨(some 26), .r (.load none), [.tmp 25], none⟩,
    ⟨(some 27), .p (.bin .lss), [.tmp 22, .tmp 26], none⟩])
  (.cond (.tmp 27) (.seq (.reg [⟨(some 4), .p .move, [.lit (.bool false)], none⟩])
  .ret)
  .skip))
  (.seq (.reg [⟨(some 28), .p .move, [.tmp 1], none⟩,
    ⟨(some 29), .p .move, [.tmp 6], none⟩,
    ⟨(some 30), .p .nilCheck, [.tmp 29], none⟩,
    ⟨(some 31), .p (.fieldAddr 1), [.tmp 30], none⟩,
    ⟨(some 32), .r (.load none), [.tmp 31], none⟩,
    ⟨(some 33), .p (.bin .leq), [.tmp 28, .tmp 32], none⟩])
  (.cond (.tmp 33) (.seq (.dreg [⟨[⟨(some 34), .p .move, [.tmp 6], none⟩,
    ⟨(some 35), .p .nilCheck, [.tmp 34], none⟩,
    ⟨(some 36), .p (.fieldAddr 2), [.tmp 35], none⟩,
    ⟨(some 37), .r (.load none), [.tmp 36], none⟩,
    ⟨(some 38), .p (.bin .eql), [.tmp 37, .lit (.int .u32 1)], none⟩,
    ⟨(some 39), .p .move, [.tmp 38], none⟩,
    ⟨(some 40), .p .move, [.tmp 1], some (39, false)⟩,
    ⟨(some 41), .p .move, [.tmp 6], some (39, false)⟩,
    ⟨(some 42), .p .nilCheck, [.tmp 41], some (39, false)⟩,
    ⟨(some 43), .p (.fieldAddr 0), [.tmp 42], some (39, false)⟩,
    ⟨(some 44), .r (.load none), [.tmp 43], some (39, false)⟩,
    ⟨(some 45), .p (.bin .sub), [.tmp 40, .tmp 44], some (39, false)⟩,
    ⟨(some 46), .p .move, [.tmp 6], some (39, false)⟩,
    ⟨(some 47), .p .nilCheck, [.tmp 46], some (39, false)⟩,
    ⟨(some 48), .p (.fieldAddr 2), [.tmp 47], some (39, false)⟩,
    ⟨(some 49), .r (.load none), [.tmp 48], some (39, false)⟩,
    ⟨(some 50), .p (.bin .rem), [.tmp 45, .tmp 49], some (39, false)⟩,
    ⟨(some 51), .p (.bin .eql), [.tmp 50, .lit (.int .u32 0)], some (39, false)⟩,
    ⟨(some 52), .p .pick, [.tmp 39, .lit (.bool true), .tmp 51], none⟩,
    ⟨(some 4), .p .move, [.tmp 52], none⟩], [], none⟩])
  .ret)
  .skip))))))
  (.reg [⟨(some 53), .p (.bin .add), [.tmp 16, .lit (.int .i64 1)], none⟩,
    ⟨(some 16), .p .move, [.tmp 53], none⟩])))))))
  (.seq (.reg [⟨(some 4), .p .move, [.lit (.bool false)], none⟩])
  .ret))
  .skip))
  (.seq (.reg [⟨(some 7), .p .move, [.lit (.int .i64 0)], none⟩])
  (.seq (.reg [⟨(some 54), .p .move, [.tmp 0], none⟩,
    ⟨(some 55), .p .lenSl, [.tmp 54], none⟩,
    ⟨(some 8), .p .move, [.tmp 55], none⟩])
  (.seq (.block 2 (.loop [0, 1, 7, 8] (.seq (.seq (.reg [⟨(some 56), .p .move, [.tmp 7], none⟩,
    ⟨(some 57), .p .move, [.tmp 8], none⟩,
    ⟨(some 58), .p (.bin .lss), [.tmp 56, .tmp 57], none⟩])
  (.cond (.tmp 58) .skip
  (.exit 2)))
  (.block 3 (.seq (.reg [⟨(some 59), .p .move, [.tmp 7], none⟩,
    ⟨(some 60), .p .move, [.tmp 8], none⟩,
    ⟨(some 61), .p (.bin .add), [.tmp 59, .tmp 60], none⟩,
    ⟨(some 62), .p (.convInt .u64), [.tmp 61], none⟩,
    ⟨(some 63), .p (.bin .shr), [.tmp 62, .lit (.int .u64 1)], none⟩,
    ⟨(some 64), .p (.convInt .i64), [.tmp 63], none⟩,
    ⟨(some 9), .p .move, [.tmp 64], none⟩])
  (.seq (.reg [⟨(some 65), .p .move, [.tmp 0], none⟩,
    ⟨(some 66), .p .move, [.tmp 9], none⟩,
    ⟨(some 67), .p (.indexAddr 3), [.tmp 65, .tmp 66], none⟩,
    ⟨(some 68), .r (.load (some 3)), [.tmp 67], none⟩,
    ⟨(some 10), .a (.alloc [(.int .u32 0), (.int .u32 0), (.int .u32 0)]), [], none⟩,
    ⟨none, .h (.store 3), [.tmp 10, .tmp 68], none⟩])
  (.seq (.seq (.reg [⟨(some 69), .p (.fieldAddr 0), [.tmp 10], none⟩,
    ⟨(some 70), .r (.load none), [.tmp 69], none⟩,
    ⟨(some 71), .p .move, [.tmp 1], none⟩,
    ⟨(some 72), .p (.bin .leq), [.tmp 70, .tmp 71], none⟩,
    ⟨(some 73), .p .move, [.tmp 72], none⟩,
    ⟨(some 74), .p .move, [.tmp 1], some (73, true)⟩,
    ⟨(some 75), .p (.fieldAddr 1), [.tmp 10], some (73, true)⟩,
    ⟨(some 76), .r (.load none), [.tmp 75], some (73, true)⟩,
    ⟨(some 77), .p (.bin .leq), [.tmp 74, .tmp 76], some (73, true)⟩,
    ⟨(some 78), .p .pick, [.tmp 73, .tmp 77, .lit (.bool false)], none⟩])
  (.cond (.tmp 78) (.seq (.reg [⟨(some 79), .p (.fieldAddr 2), [.tmp 10], none⟩,
    ⟨(some 80), .r (.load none), [.tmp 79], none⟩,
    ⟨(some 81), .p (.bin .eql), [.tmp 80, .lit (.int .u32 1)], none⟩,
    ⟨(some 82), .p .move, [.tmp 81], none⟩,
    ⟨(some 83), .p .move, [.tmp 1], some (82, false)⟩,
    ⟨(some 84), .p (.fieldAddr 0), [.tmp 10], some (82, false)⟩,
    ⟨(some 85), .r (.load none), [.tmp 84], some (82, false)⟩,
    ⟨(some 86), .p (.bin .sub), [.tmp 83, .tmp 85], some (82, false)⟩,
    ⟨(some 87), .p (.fieldAddr 2), [.tmp 10], some (82, false)⟩,
    ⟨(some 88), .r (.load none), [.tmp 87], some (82, false)⟩,
    ⟨(some 89), .p (.bin .rem), [.tmp 86, .tmp 88], some (82, false)⟩,
    ⟨(some 90), .p (.bin .eql), [.tmp 89, .lit (.int .u32 0)], some (82, false)⟩,
    ⟨(some 91), .p .pick, [.tmp 82, .lit (.bool true), .tmp 90], none⟩,
    ⟨(some 4), .p .move, [.tmp 91], none⟩])
  .ret)
  .skip))
  (.seq (.reg [⟨(some 92), .p .move, [.tmp 1], none⟩,
    ⟨(some 93), .p (.fieldAddr 0), [.tmp 10], none⟩,
    ⟨(some 94), .r (.load none), [.tmp 93], none⟩,
    ⟨(some 95), .p (.bin .lss), [.tmp 92, .tmp 94], none⟩])
  (.cond (.tmp 95) (.reg [⟨(some 96), .p .move, [.tmp 9], none⟩,
    ⟨(some 8), .p .move, [.tmp 96], none⟩])
  (.reg [⟨(some 97), .p .move, [.tmp 9], none⟩,
    ⟨(some 98), .p (.bin .add), [.tmp 97, .lit (.int .i64 1)], none⟩,
    ⟨(some 7), .p .move, [.tmp 98], none⟩]))))))))))
  (.seq (.reg [⟨(some 4), .p .move, [.lit (.bool false)], none⟩])
  .ret)))))), [.tmp 4]⟩
theorem c88 : cFunc Go.Proofs.Tryd.prog false 2 Go.Proofs.Tryd.f88 = some sf88 := by kernel_rfl

/-- rosary/rosaryref1.Addr -/
def sf89 : SFunc := ⟨1, 22, (.seq (.reg [⟨(some 2), .p .move, [.lit (.int .u64 0)], none⟩])
  (.seq (.reg [⟨(some 3), .p .move, [.lit (.int .u64 0)], none⟩])
  (.seq (.seq (.reg [⟨(some 4), .p .move, [.lit (.int .i64 0)], none⟩])
  (.block 0 (.loop [0, 3, 4] (.seq (.seq (.reg [⟨(some 5), .p .move, [.tmp 4], none⟩,
    ⟨(some 6), .p (.bin .lss), [.tmp 5, .lit (.int .i64 8)], none⟩])
  (.cond (.tmp 6) .skip
  (.exit 0)))
  (.seq (.block 1 (.seq (.reg [⟨(some 9), .p .move, [.tmp 3], none⟩,
    ⟨(some 10), .p (.bin .mul), [.tmp 9, .lit (.int .u64 256)], none⟩,
    ⟨(some 3), .p .move, [.tmp 10], none⟩])
  (.seq (.reg [⟨(some 11), .p .move, [.tmp 4], none⟩,
    ⟨(some 12), .p .move, [.tmp 0], none⟩,
    ⟨(some 13), .p .lenStr, [.tmp 12], none⟩,
    ⟨(some 14), .p (.bin .lss), [.tmp 11, .tmp 13], none⟩])
  (.cond (.tmp 14) (.reg [⟨(some 15), .p .move, [.tmp 3], none⟩,
    ⟨(some 16), .p .move, [.tmp 0], none⟩,
    ⟨(some 17), .p .move, [.tmp 4], none⟩,
    ⟨(some 18), .p .indexStr, [.tmp 16, .tmp 17], none⟩,
    ⟨(some 19), .p (.convInt .u64), [.tmp 18], none⟩,
    ⟨(some 20), .p (.bin .add), [.tmp 15, .tmp 19], none⟩,
    ⟨(some 3), .p .move, [.tmp 20], none⟩])
  .skip))))
  (.reg [⟨(some 7), .p .move, [.tmp 4], none⟩,
    ⟨(some 8), .p (.bin .add), [.tmp 7, .lit (.int .i64 1)], none⟩,
    ⟨(some 4), .p .move, [.tmp 8], none⟩]))))))
  (.seq (.reg [⟨(some 21), .p .move, [.tmp 3], none⟩,
    ⟨(some 2), .p .move, [.tmp 21], none⟩])
  .ret)))), [.tmp 2]⟩
theorem c89 : cFunc Go.Proofs.Tryd.prog false 1 Go.Proofs.Tryd.f89 = some sf89 := by kernel_rfl

def fs : FuncId → Option SFunc
  | 3 => some sf3
  | 4 => some sf4
  | 5 => some sf5
  | 6 => some sf6
  | 7 => some sf7
  | 8 => some sf8
  | 9 => some sf9
  | 10 => some sf10
  | 11 => some sf11
  | 12 => some sf12
  | 13 => some sf13
  | 14 => some sf14
  | 15 => some sf15
  | 16 => some sf16
  | 17 => some sf17
  | 18 => some sf18
  | 19 => some sf19
  | 20 => some sf20
  | 21 => some sf21
  | 22 => some sf22
  | 23 => some sf23
  | 24 => some sf24
  | 25 => some sf25
  | 26 => some sf26
  | 27 => some sf27
  | 28 => some sf28
  | 29 => some sf29
  | 31 => some sf31
  | 32 => some sf32
  | 33 => some sf33
  | 34 => some sf34
  | 35 => some sf35
  | 37 => some sf37
  | 38 => some sf38
  | 39 => some sf39
  | 40 => some sf40
  | 41 => some sf41
  | 42 => some sf42
  | 43 => some sf43
  | 44 => some sf44
  | 45 => some sf45
  | 46 => some sf46
  | 47 => some sf47
  | 48 => some sf48
  | 49 => some sf49
  | 50 => some sf50
  | 51 => some sf51
  | 52 => some sf52
  | 54 => some sf54
  | 55 => some sf55
  | 56 => some sf56
  | 57 => some sf57
  | 58 => some sf58
  | 59 => some sf59
  | 62 => some sf62
  | 63 => some sf63
  | 64 => some sf64
  | 65 => some sf65
  | 66 => some sf66
  | 67 => some sf67
  | 68 => some sf68
  | 69 => some sf69
  | 70 => some sf70
  | 71 => some sf71
  | 72 => some sf72
  | 73 => some sf73
  | 74 => some sf74
  | 75 => some sf75
  | 77 => some sf77
  | 78 => some sf78
  | 79 => some sf79
  | 80 => some sf80
  | 81 => some sf81
  | 82 => some sf82
  | 83 => some sf83
  | 84 => some sf84
  | 85 => some sf85
  | 86 => some sf86
  | 87 => some sf87
  | 88 => some sf88
  | 89 => some sf89
  | _ => none
theorem fsOk : FsOk Go.Proofs.Tryd.prog fs := by
  intro f sf h
  unfold fs at h
  split at h
  · cases h; exact ⟨Go.Proofs.Tryd.f3, _, _, Go.Proofs.Tryd.func3, c3⟩
  · cases h; exact ⟨Go.Proofs.Tryd.f4, _, _, Go.Proofs.Tryd.func4, c4⟩
  · cases h; exact ⟨Go.Proofs.Tryd.f5, _, _, Go.Proofs.Tryd.func5, c5⟩
  · cases h; exact ⟨Go.Proofs.Tryd.f6, _, _, Go.Proofs.Tryd.func6, c6⟩
  · cases h; exact ⟨Go.Proofs.Tryd.f7, _, _, Go.Proofs.Tryd.func7, c7⟩
  · cases h; exact ⟨Go.Proofs.Tryd.f8, _, _, Go.Proofs.Tryd.func8, c8⟩
  · cases h; exact ⟨Go.Proofs.Tryd.f9, _, _, Go.Proofs.Tryd.func9, c9⟩
  · cases h; exact ⟨Go.Proofs.Tryd.f10, _, _, Go.Proofs.Tryd.func10, c10⟩
  · cases h; exact ⟨Go.Proofs.Tryd.f11, _, _, Go.Proofs.Tryd.func11, c11⟩
  · cases h; exact ⟨Go.Proofs.Tryd.f12, _, _, Go.Proofs.Tryd.func12, c12⟩
  · cases h; exact ⟨Go.Proofs.Tryd.f13, _, _, Go.Proofs.Tryd.func13, c13⟩
  · cases h; exact ⟨Go.Proofs.Tryd.f14, _, _, Go.Proofs.Tryd.func14, c14⟩
  · cases h; exact ⟨Go.Proofs.Tryd.f15, _, _, Go.Proofs.Tryd.func15, c15⟩
  · cases h; exact ⟨Go.Proofs.Tryd.f16, _, _, Go.Proofs.Tryd.func16, c16⟩
  · cases h; exact ⟨Go.Proofs.Tryd.f17, _, _, Go.Proofs.Tryd.func17, c17⟩
  · cases h; exact ⟨Go.Proofs.Tryd.f18, _, _, Go.Proofs.Tryd.func18, c18⟩
  · cases h; exact ⟨Go.Proofs.Tryd.f19, _, _, Go.Proofs.Tryd.func19, c19⟩
  · cases h; exact ⟨Go.Proofs.Tryd.f20, _, _, Go.Proofs.Tryd.func20, c20⟩
  · cases h; exact ⟨Go.Proofs.Tryd.f21, _, _, Go.Proofs.Tryd.func21, c21⟩
  · cases h; exact ⟨Go.Proofs.Tryd.f22, _, _, Go.Proofs.Tryd.func22, c22⟩
  · cases h; exact ⟨Go.Proofs.Tryd.f23, _, _, Go.Proofs.Tryd.func23, c23⟩
  · cases h; exact ⟨Go.Proofs.Tryd.f24, _, _, Go.Proofs.Tryd.func24, c24⟩
  · cases h; exact ⟨Go.Proofs.Tryd.f25, _, _, Go.Proofs.Tryd.func25, c25⟩
  · cases h; exact ⟨Go.Proofs.Tryd.f26, _, _, Go.Proofs.Tryd.func26, c26⟩
  · cases h; exact ⟨Go.Proofs.Tryd.f27, _, _, Go.Proofs.Tryd.func27, c27⟩
  · cases h; exact ⟨Go.Proofs.Tryd.f28, _, _, Go.Proofs.Tryd.func28, c28⟩
  · cases h; exact ⟨Go.Proofs.Tryd.f29, _, _, Go.Proofs.Tryd.func29, c29⟩
  · cases h; exact ⟨Go.Proofs.Tryd.f31, _, _, Go.Proofs.Tryd.func31, c31⟩
  · cases h; exact ⟨Go.Proofs.Tryd.f32, _, _, Go.Proofs.Tryd.func32, c32⟩
  · cases h; exact ⟨Go.Proofs.Tryd.f33, _, _, Go.Proofs.Tryd.func33, c33⟩
  · cases h; exact ⟨Go.Proofs.Tryd.f34, _, _, Go.Proofs.Tryd.func34, c34⟩
  · cases h; exact ⟨Go.Proofs.Tryd.f35, _, _, Go.Proofs.Tryd.func35, c35⟩
  · cases h; exact ⟨Go.Proofs.Tryd.f37, _, _, Go.Proofs.Tryd.func37, c37⟩
  · cases h; exact ⟨Go.Proofs.Tryd.f38, _, _, Go.Proofs.Tryd.func38, c38⟩
  · cases h; exact ⟨Go.Proofs.Tryd.f39, _, _, Go.Proofs.Tryd.func39, c39⟩
  · cases h; exact ⟨Go.Proofs.Tryd.f40, _, _, Go.Proofs.Tryd.func40, c40⟩
  · cases h; exact ⟨Go.Proofs.Tryd.f41, _, _, Go.Proofs.Tryd.func41, c41⟩
  · cases h; exact ⟨Go.Proofs.Tryd.f42, _, _, Go.Proofs.Tryd.func42, c42⟩
  · cases h; exact ⟨Go.Proofs.Tryd.f43, _, _, Go.Proofs.Tryd.func43, c43⟩
  · cases h; exact ⟨Go.Proofs.Tryd.f44, _, _, Go.Proofs.Tryd.func44, c44⟩
  · cases h; exact ⟨Go.Proofs.Tryd.f45, _, _, Go.Proofs.Tryd.func45, c45⟩
  · cases h; exact ⟨Go.Proofs.Tryd.f46, _, _, Go.Proofs.Tryd.func46, c46⟩
  · cases h; exact ⟨Go.Proofs.Tryd.f47, _, _, Go.Proofs.Tryd.func47, c47⟩
  · cases h; exact ⟨Go.Proofs.Tryd.f48, _, _, Go.Proofs.Tryd.func48, c48⟩
  · cases h; exact ⟨Go.Proofs.Tryd.f49, _, _, Go.Proofs.Tryd.func49, c49⟩
  · cases h; exact ⟨Go.Proofs.Tryd.f50, _, _, Go.Proofs.Tryd.func50, c50⟩
  · cases h; exact ⟨Go.Proofs.Tryd.f51, _, _, Go.Proofs.Tryd.func51, c51⟩
  · cases h; exact ⟨Go.Proofs.Tryd.f52, _, _, Go.Proofs.Tryd.func52, c52⟩
  · cases h; exact ⟨Go.Proofs.Tryd.f54, _, _, Go.Proofs.Tryd.func54, c54⟩
  · cases h; exact ⟨Go.Proofs.Tryd.f55, _, _, Go.Proofs.Tryd.func55, c55⟩
  · cases h; exact ⟨Go.Proofs.Tryd.f56, _, _, Go.Proofs.Tryd.func56, c56⟩
  · cases h; exact ⟨Go.Proofs.Tryd.f57, _, _, Go.Proofs.Tryd.func57, c57⟩
  · cases h; exact ⟨Go.Proofs.Tryd.f58, _, _, Go.Proofs.Tryd.func58, c58⟩
  · cases h; exact ⟨Go.Proofs.Tryd.f59, _, _, Go.Proofs.Tryd.func59, c59⟩
  · cases h; exact ⟨Go.Proofs.Tryd.f62, _, _, Go.Proofs.Tryd.func62, c62⟩
  · cases h; exact ⟨Go.Proofs.Tryd.f63, _, _, Go.Proofs.Tryd.func63, c63⟩
  · cases h; exact ⟨Go.Proofs.Tryd.f64, _, _, Go.Proofs.Tryd.func64, c64⟩
  · cases h; exact ⟨Go.Proofs.Tryd.f65, _, _, Go.Proofs.Tryd.func65, c65⟩
  · cases h; exact ⟨Go.Proofs.Tryd.f66, _, _, Go.Proofs.Tryd.func66, c66⟩
  · cases h; exact ⟨Go.Proofs.Tryd.f67, _, _, Go.Proofs.Tryd.func67, c67⟩
  · cases h; exact ⟨Go.Proofs.Tryd.f68, _, _, Go.Proofs.Tryd.func68, c68⟩
  · cases h; exact ⟨Go.Proofs.Tryd.f69, _, _, Go.Proofs.Tryd.func69, c69⟩
  · cases h; exact ⟨Go.Proofs.Tryd.f70, _, _, Go.Proofs.Tryd.func70, c70⟩
  · cases h; exact ⟨Go.Proofs.Tryd.f71, _, _, Go.Proofs.Tryd.func71, c71⟩
  · cases h; exact ⟨Go.Proofs.Tryd.f72, _, _, Go.Proofs.Tryd.func72, c72⟩
  · cases h; exact ⟨Go.Proofs.Tryd.f73, _, _, Go.Proofs.Tryd.func73, c73⟩
  · cases h; exact ⟨Go.Proofs.Tryd.f74, _, _, Go.Proofs.Tryd.func74, c74⟩
  · cases h; exact ⟨Go.Proofs.Tryd.f75, _, _, Go.Proofs.Tryd.func75, c75⟩
  · cases h; exact ⟨Go.Proofs.Tryd.f77, _, _, Go.Proofs.Tryd.func77, c77⟩
  · cases h; exact ⟨Go.Proofs.Tryd.f78, _, _, Go.Proofs.Tryd.func78, c78⟩
  · cases h; exact ⟨Go.Proofs.Tryd.f79, _, _, Go.Proofs.Tryd.func79, c79⟩
  · cases h; exact ⟨Go.Proofs.Tryd.f80, _, _, Go.Proofs.Tryd.func80, c80⟩
  · cases h; exact ⟨Go.Proofs.Tryd.f81, _, _, Go.Proofs.Tryd.func81, c81⟩
  · cases h; exact ⟨Go.Proofs.Tryd.f82, _, _, Go.Proofs.Tryd.func82, c82⟩
  · cases h; exact ⟨Go.Proofs.Tryd.f83, _, _, Go.Proofs.Tryd.func83, c83⟩
  · cases h; exact ⟨Go.Proofs.Tryd.f84, _, _, Go.Proofs.Tryd.func84, c84⟩
  · cases h; exact ⟨Go.Proofs.Tryd.f85, _, _, Go.Proofs.Tryd.func85, c85⟩
  · cases h; exact ⟨Go.Proofs.Tryd.f86, _, _, Go.Proofs.Tryd.func86, c86⟩
  · cases h; exact ⟨Go.Proofs.Tryd.f87, _, _, Go.Proofs.Tryd.func87, c87⟩
  · cases h; exact ⟨Go.Proofs.Tryd.f88, _, _, Go.Proofs.Tryd.func88, c88⟩
  · cases h; exact ⟨Go.Proofs.Tryd.f89, _, _, Go.Proofs.Tryd.func89, c89⟩
  · cases h

end Go.Proofs.YtgnenipkebelfaaDoor.F
