/- The first half of the functions of this seat's program, translated for the engine (printed by wip/eng/dump.lean). -/
import Derived.Test.YtmbkklobijflkaaEngV
import Derived.Test.YtmbkklobijflkaaProg
import Derived.KernelRfl
set_option maxRecDepth 1000000
set_option linter.unusedVariables false
namespace Go.Proofs.Ytmbkklobijflkaa.F
open Go Go.Eng

/-- rosary/rosarylaw9.LinkFar -/
def sf3 : SFunc := ⟨1, 100, (.seq (.reg [⟨(some 2), .p .move, [.lit (.bool false)], none⟩])
  (.seq (.seq (.reg [⟨(some 13), .p .move, [.tmp 0], none⟩,
    ⟨(some 14), .p (.bin .lss), [.tmp 13, .lit (.int .i64 1)], none⟩,
    ⟨(some 15), .p .move, [.tmp 14], none⟩,
    ⟨(some 16), .p .move, [.tmp 0], some (15, false)⟩,
    ⟨(some 17), .p (.bin .gtr), [.tmp 16, .lit (.int .i64 100)], some (15, false)⟩,
    ⟨(some 18), .p .pick, [.tmp 15, .lit (.bool true), .tmp 17], none⟩,
    ⟨(some 19), .p .move, [.tmp 18], none⟩,
    ⟨(some 20), .h (.call 10), [], some (19, false)⟩,
    ⟨(some 21), .p .not, [.tmp 20], some (19, false)⟩,
    ⟨(some 22), .p .pick, [.tmp 19, .lit (.bool true), .tmp 21], none⟩])
  (.cond (.tmp 22) (.seq (.reg [⟨(some 23), .h (.call 10), [], none⟩,
    ⟨(some 2), .p .move, [.tmp 23], none⟩])
  .ret)
  .skip))
  (.seq (.reg [⟨(some 24), .h (.call 11), [.lit (.int .i64 1), .lit (.int .i64 2)], none⟩,
    ⟨(some 3), .p .move, [.tmp 24], none⟩])
  (.seq (.seq (.reg [⟨(some 25), .p .move, [.tmp 3], none⟩,
    ⟨(some 26), .p (.eq false .ptr), [.tmp 25, .lit .nilptr], none⟩])
  (.cond (.tmp 26) (.seq (.reg [⟨(some 2), .p .move, [.lit (.bool false)], none⟩])
  .ret)
  .skip))
  (.seq (.reg [⟨(some 28), .p .move, [.tmp 3], none⟩,
    ⟨(some 29), .p .move, [.tmp 0], none⟩,
    ⟨(some 30), .p .move, [.tmp 0], none⟩,
    ⟨(some 31), .p (.build [(.int .i64 0), (.int .i64 0), (.int .i64 0), (.int .i64 0), (.int .i64 0), (.str []), (.str []), (.str []), (.int .i64 0), (.int .i64 0), (.str []), .nilslice, (.bool false), (.str []), (.int .i64 0), (.int .u64 0), (.int .u64 0), (.int .i64 0), .nilslice, (.int .i64 0), (.int .i64 0)] [(0, 1), (3, 1)]), [.lit (.int .i64 1), .tmp 30], none⟩,
    ⟨(some 32), .p (.build [(.int .i64 0), (.int .i64 0), (.int .i64 0), (.int .i64 0), (.int .i64 0), (.int .i64 0), (.int .i64 0), (.int .i64 0), (.int .i64 0), (.str []), (.str []), (.str []), (.int .i64 0), (.int .i64 0), (.str []), .nilslice, (.bool false), (.str []), (.int .i64 0), (.int .u64 0), (.int .u64 0), (.int .i64 0), .nilslice, (.int .i64 0), (.int .i64 0)] [(0, 1), (1, 1), (2, 1), (4, 21)]), [.lit (.int .i64 2), .lit (.int .i64 1), .tmp 29, .tmp 31], none⟩,
    ⟨(some 33), .h (.call 12), [.tmp 28, .tmp 32], none⟩,
    ⟨(some 27), .p .move, [.tmp 33], none⟩,
    ⟨(some 34), .p (.extract 0), [.tmp 27], none⟩,
    ⟨(some 35), .p (.extract 1), [.tmp 27], none⟩,
    ⟨(some 36), .p (.extract 2), [.tmp 27], none⟩,
    ⟨(some 5), .a (.alloc [(.int .i64 0), (.int .i64 0), (.int .i64 0), (.int .i64 0), (.int .i64 0), (.int .i64 0), (.int .i64 0), (.int .i64 0), (.int .i64 0), (.str []), (.str []), (.str []), (.int .i64 0), (.int .i64 0), (.str []), .nilslice, (.bool false), (.str []), (.int .i64 0), (.int .u64 0), (.int .u64 0), (.int .i64 0), .nilslice, (.int .i64 0), (.int .i64 0)]), [], none⟩,
    ⟨(some 4), .p .move, [.tmp 34], none⟩,
    ⟨none, .h (.store 25), [.tmp 5, .tmp 35], none⟩,
    ⟨(some 6), .p .move, [.tmp 36], none⟩])
  (.seq (.seq (.dreg [⟨[⟨(some 37), .p .move, [.tmp 6], none⟩,
    ⟨(some 38), .p .not, [.tmp 37], none⟩,
    ⟨(some 39), .p .move, [.tmp 38], none⟩,
    ⟨(some 40), .p (.fieldAddr 3), [.tmp 5], some (39, false)⟩,
    ⟨(some 41), .r (.load none), [.tmp 40], some (39, false)⟩,
    ⟨(some 42), .p .move, [.tmp 3], some (39, false)⟩], [], some ⟨(some 43), .h (.call 13), [.tmp 42], some (39, false)⟩⟩,
   ⟨[⟨(some 44), .p (.bin .neq), [.tmp 41, .tmp 43], some (39, false)⟩,
    ⟨(some 45), .p .pick, [.tmp 39, .lit (.bool true), .tmp 44], none⟩,
    ⟨(some 46), .p .move, [.tmp 45], none⟩,
    ⟨(some 47), .p .move, [.tmp 4], some (46, false)⟩,
    ⟨(some 48), .p .lenSl, [.tmp 47], some (46, false)⟩,
    ⟨(some 49), .p (.bin .eql), [.tmp 48, .lit (.int .i64 1)], some (46, false)⟩,
    ⟨(some 50), .p .move, [.tmp 0], some (46, false)⟩,
    ⟨(some 51), .p (.bin .eql), [.tmp 50, .lit (.int .i64 1)], some (46, false)⟩,
    ⟨(some 52), .p (.eq true .bool), [.tmp 49, .tmp 51], some (46, false)⟩,
    ⟨(some 53), .p .pick, [.tmp 46, .lit (.bool true), .tmp 52], none⟩,
    ⟨(some 54), .p .move, [.tmp 53], none⟩,
    ⟨(some 55), .p .move, [.tmp 3], some (54, false)⟩,
    ⟨(some 57), .p .move, [.tmp 0], some (54, false)⟩,
    ⟨(some 58), .p (.bin .eql), [.tmp 57, .lit (.int .i64 1)], some (54, false)⟩], [⟨(some 41), .r (.load none), [.tmp 40], some (39, false)⟩], some ⟨(some 56), .h (.call 14), [.tmp 55], some (54, false)⟩⟩,
   ⟨[⟨(some 59), .p .move, [.tmp 58], some (54, false)⟩,
    ⟨(some 60), .p .move, [.tmp 0], some (59, false)⟩,
    ⟨(some 61), .p (.bin .gtr), [.tmp 60, .lit (.int .i64 64)], some (59, false)⟩,
    ⟨(some 62), .p .pick, [.tmp 59, .lit (.bool true), .tmp 61], some (54, false)⟩,
    ⟨(some 63), .p (.eq true .bool), [.tmp 56, .tmp 62], some (54, false)⟩,
    ⟨(some 64), .p .pick, [.tmp 54, .lit (.bool true), .tmp 63], none⟩], [], none⟩])
  (.cond (.tmp 64) (.seq (.reg [⟨(some 2), .p .move, [.lit (.bool false)], none⟩])
  .ret)
  .skip))
  (.seq (.reg [⟨(some 65), .p .move, [.tmp 4], none⟩,
    ⟨(some 66), .p .lenSl, [.tmp 65], none⟩,
    ⟨(some 7), .p .move, [.tmp 66], none⟩])
  (.seq (.seq (.reg [⟨(some 8), .p .move, [.lit (.int .i64 1)], none⟩])
  (.block 0 (.loop [0, 3, 7, 8] (.seq (.seq (.reg [⟨(some 67), .p .move, [.tmp 8], none⟩,
    ⟨(some 68), .p .move, [.tmp 0], none⟩,
    ⟨(some 69), .p (.bin .lss), [.tmp 67, .tmp 68], none⟩])
  (.cond (.tmp 69) .skip
  (.exit 0)))
  (.seq (.block 1 (.seq (.reg [⟨(some 73), .p .move, [.tmp 3], none⟩,
    ⟨(some 74), .p .move, [.tmp 8], none⟩,
    ⟨(some 75), .p .move, [.tmp 8], none⟩,
    ⟨(some 76), .p (.build [(.int .i64 0), (.int .i64 0), (.int .i64 0), (.int .i64 0), (.int .i64 0), (.str []), (.str []), (.str []), (.int .i64 0), (.int .i64 0), (.str []), .nilslice, (.bool false), (.str []), (.int .i64 0), (.int .u64 0), (.int .u64 0), (.int .i64 0), .nilslice, (.int .i64 0), (.int .i64 0)] [(0, 1), (3, 1)]), [.lit (.int .i64 1), .tmp 75], none⟩,
    ⟨(some 77), .p (.build [(.int .i64 0), (.int .i64 0), (.int .i64 0), (.int .i64 0), (.int .i64 0), (.int .i64 0), (.int .i64 0), (.int .i64 0), (.int .i64 0), (.str []), (.str []), (.str []), (.int .i64 0), (.int .i64 0), (.str []), .nilslice, (.bool false), (.str []), (.int .i64 0), (.int .u64 0), (.int .u64 0), (.int .i64 0), .nilslice, (.int .i64 0), (.int .i64 0)] [(0, 1), (1, 1), (2, 1), (4, 21)]), [.lit (.int .i64 2), .lit (.int .i64 1), .tmp 74, .tmp 76], none⟩,
    ⟨(some 78), .h (.call 12), [.tmp 73, .tmp 77], none⟩,
    ⟨(some 72), .p .move, [.tmp 78], none⟩,
    ⟨(some 79), .p (.extract 0), [.tmp 72], none⟩,
    ⟨(some 80), .p (.extract 1), [.tmp 72], none⟩,
    ⟨(some 81), .p (.extract 2), [.tmp 72], none⟩,
    ⟨(some 10), .a (.alloc [(.int .i64 0), (.int .i64 0), (.int .i64 0), (.int .i64 0), (.int .i64 0), (.int .i64 0), (.int .i64 0), (.int .i64 0), (.int .i64 0), (.str []), (.str []), (.str []), (.int .i64 0), (.int .i64 0), (.str []), .nilslice, (.bool false), (.str []), (.int .i64 0), (.int .u64 0), (.int .u64 0), (.int .i64 0), .nilslice, (.int .i64 0), (.int .i64 0)]), [], none⟩,
    ⟨(some 9), .p .move, [.tmp 79], none⟩,
    ⟨none, .h (.store 25), [.tmp 10, .tmp 80], none⟩,
    ⟨(some 11), .p .move, [.tmp 81], none⟩])
  (.reg [⟨(some 82), .p .move, [.tmp 7], none⟩,
    ⟨(some 83), .p .move, [.tmp 9], none⟩,
    ⟨(some 84), .p .lenSl, [.tmp 83], none⟩,
    ⟨(some 85), .p (.bin .add), [.tmp 82, .tmp 84], none⟩,
    ⟨(some 7), .p .move, [.tmp 85], none⟩])))
  (.reg [⟨(some 70), .p .move, [.tmp 8], none⟩,
    ⟨(some 71), .p (.bin .add), [.tmp 70, .lit (.int .i64 1)], none⟩,
    ⟨(some 8), .p .move, [.tmp 71], none⟩]))))))
  (.seq (.reg [⟨(some 86), .p .move, [.tmp 0], none⟩,
    ⟨(some 12), .p .move, [.tmp 86], none⟩])
  (.seq (.seq (.reg [⟨(some 87), .p .move, [.tmp 0], none⟩,
    ⟨(some 88), .p (.bin .gtr), [.tmp 87, .lit (.int .i64 64)], none⟩])
  (.cond (.tmp 88) (.reg [⟨(some 89), .p .move, [.tmp 12], none⟩,
    ⟨(some 90), .p (.bin .sub), [.tmp 89, .lit (.int .i64 1)], none⟩,
    ⟨(some 12), .p .move, [.tmp 90], none⟩])
  .skip))
  (.seq (.reg [⟨(some 91), .p .move, [.tmp 7], none⟩,
    ⟨(some 92), .p .move, [.tmp 12], none⟩,
    ⟨(some 93), .p (.bin .eql), [.tmp 91, .tmp 92], none⟩,
    ⟨(some 94), .p .move, [.tmp 93], none⟩,
    ⟨(some 95), .p .move, [.tmp 3], some (94, true)⟩,
    ⟨(some 96), .h (.call 13), [.tmp 95], some (94, true)⟩,
    ⟨(some 97), .p .move, [.tmp 12], some (94, true)⟩,
    ⟨(some 98), .p (.bin .eql), [.tmp 96, .tmp 97], some (94, true)⟩,
    ⟨(some 99), .p .pick, [.tmp 94, .tmp 98, .lit (.bool false)], none⟩,
    ⟨(some 2), .p .move, [.tmp 99], none⟩])
  .ret))))))))))), [.tmp 2]⟩
theorem c3 : cFunc Go.Proofs.Try.prog false 1 Go.Proofs.Try.f3 = some sf3 := by kernel_rfl
def ss3 : List Sh := [(.int .i64)]
theorem cs3 : shsOf Go.Proofs.Try.prog 12 Go.Proofs.Try.f3.params.toList = some ss3 := by kernel_rfl

/-- rosary/rosarylaw9.LinkStrange -/
def sf4 : SFunc := ⟨3, 97, (.seq (.reg [⟨(some 5), .a .box, [.tmp 2], none⟩,
    ⟨(some 6), .p .move, [.lit (.bool false)], none⟩])
  (.seq (.seq (.reg [⟨(some 11), .p (.fieldAddr 4), [.tmp 5], none⟩,
    ⟨(some 12), .p (.fieldAddr 18), [.tmp 11], none⟩,
    ⟨(some 13), .r (.load none), [.tmp 12], none⟩,
    ⟨(some 14), .p .lenSl, [.tmp 13], none⟩,
    ⟨(some 15), .p (.bin .gtr), [.tmp 14, .lit (.int .i64 40)], none⟩,
    ⟨(some 16), .p .move, [.tmp 15], none⟩,
    ⟨(some 17), .p (.fieldAddr 0), [.tmp 5], some (16, false)⟩,
    ⟨(some 18), .r (.load none), [.tmp 17], some (16, false)⟩,
    ⟨(some 19), .p .move, [.tmp 1], some (16, false)⟩,
    ⟨(some 20), .p (.bin .eql), [.tmp 18, .tmp 19], some (16, false)⟩,
    ⟨(some 21), .p .move, [.tmp 20], some (16, false)⟩,
    ⟨(some 22), .p (.fieldAddr 1), [.tmp 5], some (21, true)⟩,
    ⟨(some 23), .r (.load none), [.tmp 22], some (21, true)⟩,
    ⟨(some 24), .p .move, [.tmp 0], some (21, true)⟩,
    ⟨(some 25), .p (.bin .eql), [.tmp 23, .tmp 24], some (21, true)⟩,
    ⟨(some 26), .p .pick, [.tmp 21, .tmp 25, .lit (.bool false)], some (16, false)⟩,
    ⟨(some 27), .p .move, [.tmp 26], some (16, false)⟩,
    ⟨(some 28), .p (.fieldAddr 2), [.tmp 5], some (27, true)⟩,
    ⟨(some 29), .r (.load none), [.tmp 28], some (27, true)⟩,
    ⟨(some 30), .p (.bin .geq), [.tmp 29, .lit (.int .i64 0)], some (27, true)⟩,
    ⟨(some 31), .p .pick, [.tmp 27, .tmp 30, .lit (.bool false)], some (16, false)⟩,
    ⟨(some 32), .p .move, [.tmp 31], some (16, false)⟩,
    ⟨(some 33), .p (.fieldAddr 3), [.tmp 5], some (32, true)⟩,
    ⟨(some 34), .r (.load none), [.tmp 33], some (32, true)⟩,
    ⟨(some 35), .p (.bin .geq), [.tmp 34, .lit (.int .i64 0)], some (32, true)⟩,
    ⟨(some 36), .p .pick, [.tmp 32, .tmp 35, .lit (.bool false)], some (16, false)⟩,
    ⟨(some 37), .p .move, [.tmp 36], some (16, false)⟩,
    ⟨(some 38), .p (.fieldAddr 3), [.tmp 5], some (37, true)⟩,
    ⟨(some 39), .r (.load none), [.tmp 38], some (37, true)⟩,
    ⟨(some 40), .p (.bin .leq), [.tmp 39, .lit (.int .i64 2)], some (37, true)⟩,
    ⟨(some 41), .p .pick, [.tmp 37, .tmp 40, .lit (.bool false)], some (16, false)⟩,
    ⟨(some 42), .p .pick, [.tmp 16, .lit (.bool true), .tmp 41], none⟩,
    ⟨(some 43), .p .move, [.tmp 42], none⟩,
    ⟨(some 44), .h (.call 10), [], some (43, false)⟩,
    ⟨(some 45), .p .not, [.tmp 44], some (43, false)⟩,
    ⟨(some 46), .p .pick, [.tmp 43, .lit (.bool true), .tmp 45], none⟩])
  (.cond (.tmp 46) (.seq (.reg [⟨(some 47), .h (.call 10), [], none⟩,
    ⟨(some 6), .p .move, [.tmp 47], none⟩])
  .ret)
  .skip))
  (.seq (.reg [⟨(some 48), .p .move, [.tmp 0], none⟩,
    ⟨(some 49), .p .move, [.tmp 1], none⟩,
    ⟨(some 50), .h (.call 11), [.tmp 48, .tmp 49], none⟩,
    ⟨(some 7), .p .move, [.tmp 50], none⟩])
  (.seq (.seq (.reg [⟨(some 51), .p .move, [.tmp 7], none⟩,
    ⟨(some 52), .p (.eq false .ptr), [.tmp 51, .lit .nilptr], none⟩])
  (.cond (.tmp 52) (.seq (.reg [⟨(some 6), .p .move, [.lit (.bool false)], none⟩])
  .ret)
  .skip))
  (.seq (.reg [⟨(some 53), .p .move, [.tmp 7], none⟩,
    ⟨(some 54), .p (.build [(.int .i64 0), (.int .i64 0), (.int .i64 0), (.int .i64 0), (.int .i64 0), (.str []), (.str []), (.str []), (.int .i64 0), (.int .i64 0), (.str []), .nilslice, (.bool false), (.str []), (.int .i64 0), (.int .u64 0), (.int .u64 0), (.int .i64 0), .nilslice, (.int .i64 0), (.int .i64 0)] [(0, 1)]), [.lit (.int .i64 1)], none⟩,
    ⟨(some 55), .h (.call 15), [.tmp 53, .tmp 54], none⟩])
  (.seq (.reg [⟨(some 56), .p .move, [.tmp 7], none⟩,
    ⟨(some 57), .p (.build [(.int .i64 0), (.int .i64 0), (.int .i64 0), (.int .i64 0), (.int .i64 0), (.str []), (.str []), (.str []), (.int .i64 0), (.int .i64 0), (.str []), .nilslice, (.bool false), (.str []), (.int .i64 0), (.int .u64 0), (.int .u64 0), (.int .i64 0), .nilslice, (.int .i64 0), (.int .i64 0)] [(0, 1)]), [.lit (.int .i64 2)], none⟩,
    ⟨(some 58), .h (.call 15), [.tmp 56, .tmp 57], none⟩])
  (.seq (.reg [⟨(some 60), .p .move, [.tmp 7], none⟩,
    ⟨(some 61), .r (.load (some 25)), [.tmp 5], none⟩,
    ⟨(some 62), .h (.call 12), [.tmp 60, .tmp 61], none⟩,
    ⟨(some 59), .p .move, [.tmp 62], none⟩,
    ⟨(some 63), .p (.extract 0), [.tmp 59], none⟩,
    ⟨(some 64), .p (.extract 1), [.tmp 59], none⟩,
    ⟨(some 65), .p (.extract 2), [.tmp 59], none⟩,
    ⟨(some 9), .a (.alloc [(.int .i64 0), (.int .i64 0), (.int .i64 0), (.int .i64 0), (.int .i64 0), (.int .i64 0), (.int .i64 0), (.int .i64 0), (.int .i64 0), (.str []), (.str []), (.str []), (.int .i64 0), (.int .i64 0), (.str []), .nilslice, (.bool false), (.str []), (.int .i64 0), (.int .u64 0), (.int .u64 0), (.int .i64 0), .nilslice, (.int .i64 0), (.int .i64 0)]), [], none⟩,
    ⟨(some 8), .p .move, [.tmp 63], none⟩,
    ⟨none, .h (.store 25), [.tmp 9, .tmp 64], none⟩,
    ⟨(some 10), .p .move, [.tmp 65], none⟩])
  (.seq (.reg [⟨(some 66), .p .move, [.tmp 10], none⟩,
    ⟨(some 67), .p .not, [.tmp 66], none⟩,
    ⟨(some 68), .p .move, [.tmp 67], none⟩,
    ⟨(some 69), .p .move, [.tmp 8], some (68, true)⟩,
    ⟨(some 70), .p .lenSl, [.tmp 69], some (68, true)⟩,
    ⟨(some 71), .p (.bin .eql), [.tmp 70, .lit (.int .i64 0)], some (68, true)⟩,
    ⟨(some 72), .p .pick, [.tmp 68, .tmp 71, .lit (.bool false)], none⟩,
    ⟨(some 73), .p .move, [.tmp 72], none⟩,
    ⟨(some 74), .p (.fieldAddr 2), [.tmp 9], some (73, true)⟩,
    ⟨(some 75), .r (.load none), [.tmp 74], some (73, true)⟩,
    ⟨(some 76), .p (.fieldAddr 3), [.tmp 9], some (73, true)⟩,
    ⟨(some 77), .r (.load none), [.tmp 76], some (73, true)⟩,
    ⟨(some 78), .p (.bin .add), [.tmp 75, .tmp 77], some (73, true)⟩,
    ⟨(some 79), .p (.fieldAddr 0), [.tmp 9], some (73, true)⟩,
    ⟨(some 80), .r (.load none), [.tmp 79], some (73, true)⟩,
    ⟨(some 81), .p (.bin .add), [.tmp 78, .tmp 80], some (73, true)⟩,
    ⟨(some 82), .p (.fieldAddr 1), [.tmp 9], some (73, true)⟩,
    ⟨(some 83), .r (.load none), [.tmp 82], some (73, true)⟩,
    ⟨(some 84), .p (.bin .add), [.tmp 81, .tmp 83], some (73, true)⟩,
    ⟨(some 85), .p (.bin .eql), [.tmp 84, .lit (.int .i64 0)], some (73, true)⟩,
    ⟨(some 86), .p .pick, [.tmp 73, .tmp 85, .lit (.bool false)], none⟩,
    ⟨(some 87), .p .move, [.tmp 86], none⟩,
    ⟨(some 88), .p .move, [.tmp 7], some (87, true)⟩,
    ⟨(some 89), .h (.call 16), [.tmp 88], some (87, true)⟩,
    ⟨(some 90), .p (.bin .eql), [.tmp 89, .lit (.int .i64 2)], some (87, true)⟩,
    ⟨(some 91), .p .pick, [.tmp 87, .tmp 90, .lit (.bool false)], none⟩,
    ⟨(some 92), .p .move, [.tmp 91], none⟩,
    ⟨(some 93), .p .move, [.tmp 7], some (92, true)⟩,
    ⟨(some 94), .h (.call 13), [.tmp 93], some (92, true)⟩,
    ⟨(some 95), .p (.bin .eql), [.tmp 94, .lit (.int .i64 0)], some (92, true)⟩,
    ⟨(some 96), .p .pick, [.tmp 92, .tmp 95, .lit (.bool false)], none⟩,
    ⟨(some 6), .p .move, [.tmp 96], none⟩])
  .ret)))))))), [.tmp 6]⟩
theorem c4 : cFunc Go.Proofs.Try.prog false 3 Go.Proofs.Try.f4 = some sf4 := by kernel_rfl
def ss4 : List Sh := [(.int .i64), (.int .i64), (.st [(.int .i64), (.int .i64), (.int .i64), (.int .i64), (.st [(.int .i64), (.int .i64), (.int .i64), (.int .i64), (.st [(.int .i64), .str, .str, .str, (.int .i64)]), (.st [(.int .i64), .str, (.sl 32 (.st [.str, .str])), .bool, .str, (.int .i64)]), (.st [(.int .u64), (.int .u64)]), (.int .i64), (.sl 32 (.st [.str, .str])), (.int .i64), (.int .i64)])])]
theorem cs4 : shsOf Go.Proofs.Try.prog 12 Go.Proofs.Try.f4.params.toList = some ss4 := by kernel_rfl

/-- rosary/rosarylaw9.LinkAcks -/
def sf5 : SFunc := ⟨3, 101, (.seq (.reg [⟨(some 6), .p .move, [.lit (.bool false)], none⟩])
  (.seq (.seq (.reg [⟨(some 18), .p .move, [.tmp 0], none⟩,
    ⟨(some 19), .p (.bin .lss), [.tmp 18, .lit (.int .i64 0)], none⟩,
    ⟨(some 20), .p .move, [.tmp 19], none⟩,
    ⟨(some 21), .p .move, [.tmp 0], some (20, false)⟩,
    ⟨(some 22), .p (.bin .gtr), [.tmp 21, .lit (.int .i64 30)], some (20, false)⟩,
    ⟨(some 23), .p .pick, [.tmp 20, .lit (.bool true), .tmp 22], none⟩,
    ⟨(some 24), .p .move, [.tmp 23], none⟩,
    ⟨(some 25), .p .move, [.tmp 1], some (24, false)⟩,
    ⟨(some 26), .p (.bin .lss), [.tmp 25, .lit (.int .i64 0)], some (24, false)⟩,
    ⟨(some 27), .p .pick, [.tmp 24, .lit (.bool true), .tmp 26], none⟩,
    ⟨(some 28), .p .move, [.tmp 27], none⟩,
    ⟨(some 29), .p .move, [.tmp 1], some (28, false)⟩,
    ⟨(some 30), .p .move, [.tmp 0], some (28, false)⟩,
    ⟨(some 31), .p (.bin .gtr), [.tmp 29, .tmp 30], some (28, false)⟩,
    ⟨(some 32), .p .pick, [.tmp 28, .lit (.bool true), .tmp 31], none⟩,
    ⟨(some 33), .p .move, [.tmp 32], none⟩,
    ⟨(some 34), .p .move, [.tmp 2], some (33, false)⟩,
    ⟨(some 35), .p (.bin .lss), [.tmp 34, .lit (.int .i64 0)], some (33, false)⟩,
    ⟨(some 36), .p .pick, [.tmp 33, .lit (.bool true), .tmp 35], none⟩,
    ⟨(some 37), .p .move, [.tmp 36], none⟩,
    ⟨(some 38), .p .move, [.tmp 2], some (37, false)⟩,
    ⟨(some 39), .p .move, [.tmp 0], some (37, false)⟩,
    ⟨(some 40), .p (.bin .gtr), [.tmp 38, .tmp 39], some (37, false)⟩,
    ⟨(some 41), .p .pick, [.tmp 37, .lit (.bool true), .tmp 40], none⟩,
    ⟨(some 42), .p .move, [.tmp 41], none⟩,
    ⟨(some 43), .h (.call 10), [], some (42, false)⟩,
    ⟨(some 44), .p .not, [.tmp 43], some (42, false)⟩,
    ⟨(some 45), .p .pick, [.tmp 42, .lit (.bool true), .tmp 44], none⟩])
  (.cond (.tmp 45) (.seq (.reg [⟨(some 46), .h (.call 10), [], none⟩,
    ⟨(some 6), .p .move, [.tmp 46], none⟩])
  .ret)
  .skip))
  (.seq (.reg [⟨(some 47), .h (.call 11), [.lit (.int .i64 1), .lit (.int .i64 2)], none⟩,
    ⟨(some 7), .p .move, [.tmp 47], none⟩])
  (.seq (.seq (.reg [⟨(some 48), .p .move, [.tmp 7], none⟩,
    ⟨(some 49), .p (.eq false .ptr), [.tmp 48, .lit .nilptr], none⟩])
  (.cond (.tmp 49) (.seq (.reg [⟨(some 6), .p .move, [.lit (.bool false)], none⟩])
  .ret)
  .skip))
  (.seq (.seq (.reg [⟨(some 8), .p .move, [.lit (.int .i64 0)], none⟩])
  (.block 0 (.loop [0, 1, 2, 7, 8] (.seq (.seq (.reg [⟨(some 50), .p .move, [.tmp 8], none⟩,
    ⟨(some 51), .p .move, [.tmp 0], none⟩,
    ⟨(some 52), .p (.bin .lss), [.tmp 50, .tmp 51], none⟩])
  (.cond (.tmp 52) .skip
  (.exit 0)))
  (.seq (.block 1 (.reg [⟨(some 55), .p .move, [.tmp 7], none⟩,
    ⟨(some 56), .p (.build [(.int .i64 0), (.int .i64 0), (.int .i64 0), (.int .i64 0), (.int .i64 0), (.str []), (.str []), (.str []), (.int .i64 0), (.int .i64 0), (.str []), .nilslice, (.bool false), (.str []), (.int .i64 0), (.int .u64 0), (.int .u64 0), (.int .i64 0), .nilslice, (.int .i64 0), (.int .i64 0)] [(0, 1)]), [.lit (.int .i64 1)], none⟩,
    ⟨(some 57), .h (.call 15), [.tmp 55, .tmp 56], none⟩]))
  (.reg [⟨(some 53), .p .move, [.tmp 8], none⟩,
    ⟨(some 54), .p (.bin .add), [.tmp 53, .lit (.int .i64 1)], none⟩,
    ⟨(some 8), .p .move, [.tmp 54], none⟩]))))))
  (.seq (.reg [⟨(some 59), .p .move, [.tmp 7], none⟩,
    ⟨(some 60), .p .move, [.tmp 1], none⟩,
    ⟨(some 61), .p (.build [(.int .i64 0), (.int .i64 0), (.int .i64 0), (.int .i64 0), (.int .i64 0), (.int .i64 0), (.int .i64 0), (.int .i64 0), (.int .i64 0), (.str []), (.str []), (.str []), (.int .i64 0), (.int .i64 0), (.str []), .nilslice, (.bool false), (.str []), (.int .i64 0), (.int .u64 0), (.int .u64 0), (.int .i64 0), .nilslice, (.int .i64 0), (.int .i64 0)] [(0, 1), (1, 1), (3, 1)]), [.lit (.int .i64 2), .lit (.int .i64 1), .tmp 60], none⟩,
    ⟨(some 62), .h (.call 12), [.tmp 59, .tmp 61], none⟩,
    ⟨(some 58), .p .move, [.tmp 62], none⟩,
    ⟨(some 63), .p (.extract 0), [.tmp 58], none⟩,
    ⟨(some 64), .p (.extract 1), [.tmp 58], none⟩,
    ⟨(some 65), .p (.extract 2), [.tmp 58], none⟩,
    ⟨(some 10), .a (.alloc [(.int .i64 0), (.int .i64 0), (.int .i64 0), (.int .i64 0), (.int .i64 0), (.int .i64 0), (.int .i64 0), (.int .i64 0), (.int .i64 0), (.str []), (.str []), (.str []), (.int .i64 0), (.int .i64 0), (.str []), .nilslice, (.bool false), (.str []), (.int .i64 0), (.int .u64 0), (.int .u64 0), (.int .i64 0), .nilslice, (.int .i64 0), (.int .i64 0)]), [], none⟩,
    ⟨(some 9), .p .move, [.tmp 63], none⟩,
    ⟨none, .h (.store 25), [.tmp 10, .tmp 64], none⟩,
    ⟨(some 11), .p .move, [.tmp 65], none⟩])
  (.seq (.reg [⟨(some 67), .p .move, [.tmp 7], none⟩,
    ⟨(some 68), .p .move, [.tmp 2], none⟩,
    ⟨(some 69), .p (.build [(.int .i64 0), (.int .i64 0), (.int .i64 0), (.int .i64 0), (.int .i64 0), (.int .i64 0), (.int .i64 0), (.int .i64 0), (.int .i64 0), (.str []), (.str []), (.str []), (.int .i64 0), (.int .i64 0), (.str []), .nilslice, (.bool false), (.str []), (.int .i64 0), (.int .u64 0), (.int .u64 0), (.int .i64 0), .nilslice, (.int .i64 0), (.int .i64 0)] [(0, 1), (1, 1), (3, 1)]), [.lit (.int .i64 2), .lit (.int .i64 1), .tmp 68], none⟩,
    ⟨(some 70), .h (.call 12), [.tmp 67, .tmp 69], none⟩,
    ⟨(some 66), .p .move, [.tmp 70], none⟩,
    ⟨(some 71), .p (.extract 0), [.tmp 66], none⟩,
    ⟨(some 72), .p (.extract 1), [.tmp 66], none⟩,
    ⟨(some 73), .p (.extract 2), [.tmp 66], none⟩,
    ⟨(some 13), .a (.alloc [(.int .i64 0), (.int .i64 0), (.int .i64 0), (.int .i64 0), (.int .i64 0), (.int .i64 0), (.int .i64 0), (.int .i64 0), (.int .i64 0), (.str []), (.str []), (.str []), (.int .i64 0), (.int .i64 0), (.str []), .nilslice, (.bool false), (.str []), (.int .i64 0), (.int .u64 0), (.int .u64 0), (.int .i64 0), .nilslice, (.int .i64 0), (.int .i64 0)]), [], none⟩,
    ⟨(some 12), .p .move, [.tmp 71], none⟩,
    ⟨none, .h (.store 25), [.tmp 13, .tmp 72], none⟩,
    ⟨(some 14), .p .move, [.tmp 73], none⟩])
  (.seq (.reg [⟨(some 75), .p .move, [.tmp 7], none⟩,
    ⟨(some 76), .p .move, [.tmp 0], none⟩,
    ⟨(some 77), .p (.bin .add), [.tmp 76, .lit (.int .i64 1)], none⟩,
    ⟨(some 78), .p (.build [(.int .i64 0), (.int .i64 0), (.int .i64 0), (.int .i64 0), (.int .i64 0), (.int .i64 0), (.int .i64 0), (.int .i64 0), (.int .i64 0), (.str []), (.str []), (.str []), (.int .i64 0), (.int .i64 0), (.str []), .nilslice, (.bool false), (.str []), (.int .i64 0), (.int .u64 0), (.int .u64 0), (.int .i64 0), .nilslice, (.int .i64 0), (.int .i64 0)] [(0, 1), (1, 1), (3, 1)]), [.lit (.int .i64 2), .lit (.int .i64 1), .tmp 77], none⟩,
    ⟨(some 79), .h (.call 12), [.tmp 75, .tmp 78], none⟩,
    ⟨(some 74), .p .move, [.tmp 79], none⟩,
    ⟨(some 80), .p (.extract 0), [.tmp 74], none⟩,
    ⟨(some 81), .p (.extract 1), [.tmp 74], none⟩,
    ⟨(some 82), .p (.extract 2), [.tmp 74], none⟩,
    ⟨(some 16), .a (.alloc [(.int .i64 0), (.int .i64 0), (.int .i64 0), (.int .i64 0), (.int .i64 0), (.int .i64 0), (.int .i64 0), (.int .i64 0), (.int .i64 0), (.str []), (.str []), (.str []), (.int .i64 0), (.int .i64 0), (.str []), .nilslice, (.bool false), (.str []), (.int .i64 0), (.int .u64 0), (.int .u64 0), (.int .i64 0), .nilslice, (.int .i64 0), (.int .i64 0)]), [], none⟩,
    ⟨(some 15), .p .move, [.tmp 80], none⟩,
    ⟨none, .h (.store 25), [.tmp 16, .tmp 81], none⟩,
    ⟨(some 17), .p .move, [.tmp 82], none⟩])
  (.seq (.reg [⟨(some 83), .p .move, [.tmp 11], none⟩,
    ⟨(some 84), .p .move, [.tmp 83], none⟩,
    ⟨(some 85), .p .move, [.tmp 14], some (84, true)⟩,
    ⟨(some 86), .p .pick, [.tmp 84, .tmp 85, .lit (.bool false)], none⟩,
    ⟨(some 87), .p .move, [.tmp 86], none⟩,
    ⟨(some 88), .p .move, [.tmp 17], some (87, true)⟩,
    ⟨(some 89), .p .not, [.tmp 88], some (87, true)⟩,
    ⟨(some 90), .p .pick, [.tmp 87, .tmp 89, .lit (.bool false)], none⟩,
    ⟨(some 91), .p .move, [.tmp 90], none⟩,
    ⟨(some 92), .p .move, [.tmp 7], some (91, true)⟩,
    ⟨(some 93), .h (.call 16), [.tmp 92], some (91, true)⟩,
    ⟨(some 94), .p .move, [.tmp 0], some (91, true)⟩,
    ⟨(some 95), .p .move, [.tmp 1], some (91, true)⟩,
    ⟨(some 96), .p .move, [.tmp 2], some (91, true)⟩,
    ⟨(some 97), .p .max, [.tmp 95, .tmp 96], some (91, true)⟩,
    ⟨(some 98), .p (.bin .sub), [.tmp 94, .tmp 97], some (91, true)⟩,
    ⟨(some 99), .p (.bin .eql), [.tmp 93, .tmp 98], some (91, true)⟩,
    ⟨(some 100), .p .pick, [.tmp 91, .tmp 99, .lit (.bool false)], none⟩,
    ⟨(some 6), .p .move, [.tmp 100], none⟩])
  .ret))))))))), [.tmp 6]⟩
theorem c5 : cFunc Go.Proofs.Try.prog false 3 Go.Proofs.Try.f5 = some sf5 := by kernel_rfl
def ss5 : List Sh := [(.int .i64), (.int .i64), (.int .i64)]
theorem cs5 : shsOf Go.Proofs.Try.prog 12 Go.Proofs.Try.f5.params.toList = some ss5 := by kernel_rfl

/-- rosary/rosarylaw9.LinkPlays -/
def sf6 : SFunc := ⟨3, 224, (.seq (.reg [⟨(some 6), .p .move, [.lit (.bool false)], none⟩])
  (.seq (.seq (.reg [⟨(some 27), .p .move, [.tmp 2], none⟩,
    ⟨(some 28), .p .lenSl, [.tmp 27], none⟩,
    ⟨(some 29), .p (.bin .gtr), [.tmp 28, .lit (.int .i64 100)], none⟩,
    ⟨(some 30), .p .move, [.tmp 29], none⟩,
    ⟨(some 31), .h (.call 10), [], some (30, false)⟩,
    ⟨(some 32), .p .not, [.tmp 31], some (30, false)⟩,
    ⟨(some 33), .p .pick, [.tmp 30, .lit (.bool true), .tmp 32], none⟩])
  (.cond (.tmp 33) (.seq (.reg [⟨(some 34), .h (.call 10), [], none⟩,
    ⟨(some 6), .p .move, [.tmp 34], none⟩])
  .ret)
  .skip))
  (.seq (.reg [⟨(some 35), .p .move, [.tmp 0], none⟩,
    ⟨(some 36), .p .move, [.tmp 1], none⟩,
    ⟨(some 37), .h (.call 11), [.tmp 35, .tmp 36], none⟩,
    ⟨(some 38), .p .move, [.tmp 0], none⟩,
    ⟨(some 39), .p .move, [.tmp 1], none⟩,
    ⟨(some 40), .p (.build [(.int .i64 0), (.int .i64 0), (.int .i64 0), .nilslice, (.int .i64 0), .nilslice, (.int .i64 0)] [(0, 1), (1, 1)]), [.tmp 38, .tmp 39], none⟩,
    ⟨(some 41), .a .box, [.tmp 40], none⟩,
    ⟨(some 7), .p .move, [.tmp 37], none⟩,
    ⟨(some 8), .p .move, [.tmp 41], none⟩])
  (.seq (.seq (.reg [⟨(some 42), .p .move, [.tmp 7], none⟩,
    ⟨(some 43), .p (.eq false .ptr), [.tmp 42, .lit .nilptr], none⟩])
  (.cond (.tmp 43) (.seq (.reg [⟨(some 6), .p .move, [.lit (.bool false)], none⟩])
  .ret)
  .skip))
  (.seq (.reg [⟨(some 44), .p (.build [.nilslice, .nilslice, .nilslice, .nilslice, .nilslice, .nilslice, .nilslice, .nilslice, .nilslice, .nilslice, .nilslice, .nilslice, .nilslice, .nilslice] []), [], none⟩,
    ⟨(some 45), .a .box, [.tmp 44], none⟩,
    ⟨(some 9), .p .move, [.tmp 45], none⟩])
  (.seq (.seq (.reg [⟨(some 10), .p .move, [.lit (.int .i64 0)], none⟩])
  (.block 0 (.loop [0, 1, 2, 7, 8, 9, 10] (.seq (.seq (.reg [⟨(some 46), .p .move, [.tmp 10], none⟩,
    ⟨(some 47), .p .move, [.tmp 2], none⟩,
    ⟨(some 48), .p .lenSl, [.tmp 47], none⟩,
    ⟨(some 49), .p (.bin .lss), [.tmp 46, .tmp 48], none⟩])
  (.cond (.tmp 49) .skip
  (.exit 0)))
  (.seq (.block 1 (.seq (.reg [⟨(some 52), .p .move, [.tmp 2], none⟩,
    ⟨(some 53), .p .move, [.tmp 10], none⟩,
    ⟨(some 54), .p (.indexAddr 27), [.tmp 52, .tmp 53], none⟩,
    ⟨(some 55), .r (.load (some 27)), [.tmp 54], none⟩,
    ⟨(some 11), .a (.alloc [(.int .i64 0), (.int .i64 0), (.int .i64 0), (.int .i64 0), (.int .i64 0), (.int .i64 0), (.int .i64 0), (.int .i64 0), (.int .i64 0), (.int .i64 0), (.int .i64 0), (.str []), (.str []), (.str []), (.int .i64 0), (.int .i64 0), (.str []), .nilslice, (.bool false), (.str []), (.int .i64 0), (.int .u64 0), (.int .u64 0), (.int .i64 0), .nilslice, (.int .i64 0), (.int .i64 0)]), [], none⟩,
    ⟨none, .h (.store 27), [.tmp 11, .tmp 55], none⟩])
  (.seq (.seq (.reg [⟨(some 56), .p (.fieldAddr 0), [.tmp 11], none⟩,
    ⟨(some 57), .r (.load none), [.tmp 56], none⟩])
  (.block 2 (.seq (.reg [⟨(some 115), .p (.bin .eql), [.tmp 57, .lit (.int .i64 1)], none⟩,
    ⟨(some 114), .p .move, [.tmp 115], none⟩])
  (.cond (.tmp 114) (.seq (.reg [⟨(some 116), .p (.fieldAddr 1), [.tmp 11], none⟩,
    ⟨(some 117), .r (.load none), [.tmp 116], none⟩,
    ⟨(some 118), .p (.build [(.int .i64 0), (.int .i64 0), (.int .i64 0), (.int .i64 0), (.int .i64 0), (.str []), (.str []), (.str []), (.int .i64 0), (.int .i64 0), (.str []), .nilslice, (.bool false), (.str []), (.int .i64 0), (.int .u64 0), (.int .u64 0), (.int .i64 0), .nilslice, (.int .i64 0), (.int .i64 0)] [(0, 1), (3, 1)]), [.lit (.int .i64 1), .tmp 117], none⟩,
    ⟨(some 12), .a (.alloc [(.int .i64 0), (.int .i64 0), (.int .i64 0), (.int .i64 0), (.int .i64 0), (.str []), (.str []), (.str []), (.int .i64 0), (.int .i64 0), (.str []), .nilslice, (.bool false), (.str []), (.int .i64 0), (.int .u64 0), (.int .u64 0), (.int .i64 0), .nilslice, (.int .i64 0), (.int .i64 0)]), [], none⟩,
    ⟨none, .h (.store 21), [.tmp 12, .tmp 118], none⟩])
  (.seq (.dreg [⟨[⟨(some 119), .p .move, [.tmp 7], none⟩,
    ⟨(some 120), .r (.load (some 21)), [.tmp 12], none⟩,
    ⟨(some 122), .p .move, [.tmp 8], none⟩,
    ⟨(some 123), .r (.load (some 21)), [.tmp 12], none⟩], [], some ⟨(some 121), .h (.call 15), [.tmp 119, .tmp 120], none⟩⟩,
   ⟨[], [⟨(some 123), .r (.load (some 21)), [.tmp 12], none⟩], some ⟨(some 124), .h (.call 18), [.tmp 122, .tmp 123], none⟩⟩,
   ⟨[], [], some ⟨(some 125), .h (.call 17), [.tmp 121, .tmp 124], none⟩⟩,
   ⟨[⟨(some 126), .p .not, [.tmp 125], none⟩], [], none⟩])
  (.cond (.tmp 126) (.seq (.reg [⟨(some 6), .p .move, [.lit (.bool false)], none⟩])
  .ret)
  .skip)))
  (.seq (.reg [⟨(some 128), .p (.bin .eql), [.tmp 57, .lit (.int .i64 3)], none⟩,
    ⟨(some 127), .p .move, [.tmp 128], none⟩])
  (.cond (.tmp 127) (.seq (.reg [⟨(some 129), .p .move, [.tmp 7], none⟩,
    ⟨(some 130), .h (.call 19), [.tmp 129], none⟩,
    ⟨(some 131), .p .move, [.tmp 8], none⟩,
    ⟨(some 132), .h (.call 20), [.tmp 131], none⟩,
    ⟨(some 13), .p .move, [.tmp 130], none⟩,
    ⟨(some 14), .p .move, [.tmp 132], none⟩])
  (.seq (.seq (.reg [⟨(some 133), .p .move, [.tmp 13], none⟩,
    ⟨(some 134), .p .lenSl, [.tmp 133], none⟩,
    ⟨(some 135), .p .move, [.tmp 14], none⟩,
    ⟨(some 136), .p .lenSl, [.tmp 135], none⟩,
    ⟨(some 137), .p (.bin .neq), [.tmp 134, .tmp 136], none⟩])
  (.cond (.tmp 137) (.seq (.reg [⟨(some 6), .p .move, [.lit (.bool false)], none⟩])
  .ret)
  .skip))
  (.seq (.reg [⟨(some 15), .p .move, [.lit (.int .i64 0)], none⟩])
  (.block 3 (.loop [0, 1, 2, 7, 8, 9, 10, 13, 14, 15] (.seq (.seq (.reg [⟨(some 138), .p .move, [.tmp 15], none⟩,
    ⟨(some 139), .p .move, [.tmp 13], none⟩,
    ⟨(some 140), .p .lenSl, [.tmp 139], none⟩,
    ⟨(some 141), .p (.bin .lss), [.tmp 138, .tmp 140], none⟩])
  (.cond (.tmp 141) .skip
  (.exit 3)))
  (.seq (.block 4 (.seq (.dreg [⟨[⟨(some 144), .p .move, [.tmp 13], none⟩,
    ⟨(some 145), .p .move, [.tmp 15], none⟩,
    ⟨(some 146), .p (.indexAddr 25), [.tmp 144, .tmp 145], none⟩,
    ⟨(some 147), .r (.load (some 25)), [.tmp 146], none⟩,
    ⟨(some 148), .p .move, [.tmp 14], none⟩,
    ⟨(some 149), .p .move, [.tmp 15], none⟩,
    ⟨(some 150), .p (.indexAddr 25), [.tmp 148, .tmp 149], none⟩,
    ⟨(some 151), .r (.load (some 25)), [.tmp 150], none⟩], [], some ⟨(some 152), .h (.call 17), [.tmp 147, .tmp 151], none⟩⟩,
   ⟨[⟨(some 153), .p .not, [.tmp 152], none⟩], [], none⟩])
  (.cond (.tmp 153) (.seq (.reg [⟨(some 6), .p .move, [.lit (.bool false)], none⟩])
  .ret)
  .skip)))
  (.reg [⟨(some 142), .p .move, [.tmp 15], none⟩,
    ⟨(some 143), .p (.bin .add), [.tmp 142, .lit (.int .i64 1)], none⟩,
    ⟨(some 15), .p .move, [.tmp 143], none⟩]))))))))
  (.seq (.reg [⟨(some 58), .p (.fieldAddr 2), [.tmp 11], none⟩,
    ⟨(some 59), .r (.load (some 25)), [.tmp 58], none⟩,
    ⟨(some 16), .a (.alloc [(.int .i64 0), (.int .i64 0), (.int .i64 0), (.int .i64 0), (.int .i64 0), (.int .i64 0), (.int .i64 0), (.int .i64 0), (.int .i64 0), (.str []), (.str []), (.str []), (.int .i64 0), (.int .i64 0), (.str []), .nilslice, (.bool false), (.str []), (.int .i64 0), (.int .u64 0), (.int .u64 0), (.int .i64 0), .nilslice, (.int .i64 0), (.int .i64 0)]), [], none⟩,
    ⟨none, .h (.store 25), [.tmp 16, .tmp 59], none⟩])
  (.seq (.seq (.reg [⟨(some 60), .p (.fieldAddr 0), [.tmp 11], none⟩,
    ⟨(some 61), .r (.load none), [.tmp 60], none⟩,
    ⟨(some 62), .p (.bin .eql), [.tmp 61, .lit (.int .i64 4)], none⟩])
  (.cond (.tmp 62) (.dreg [⟨[⟨(some 63), .p .move, [.tmp 1], none⟩,
    ⟨(some 64), .p .move, [.tmp 0], none⟩,
    ⟨(some 65), .p (.fieldAddr 2), [.tmp 11], none⟩,
    ⟨(some 66), .p (.fieldAddr 2), [.tmp 65], none⟩,
    ⟨(some 67), .r (.load none), [.tmp 66], none⟩,
    ⟨(some 68), .p (.bin .and), [.tmp 67, .lit (.int .i64 127)], none⟩,
    ⟨(some 69), .p (.fieldAddr 2), [.tmp 11], none⟩,
    ⟨(some 70), .p (.fieldAddr 3), [.tmp 69], none⟩,
    ⟨(some 71), .r (.load none), [.tmp 70], none⟩,
    ⟨(some 72), .p (.bin .and), [.tmp 71, .lit (.int .i64 15)], none⟩,
    ⟨(some 73), .p .move, [.tmp 8], none⟩,
    ⟨(some 74), .p .nilCheck, [.tmp 73], none⟩,
    ⟨(some 75), .p (.fieldAddr 2), [.tmp 74], none⟩,
    ⟨(some 76), .r (.load none), [.tmp 75], none⟩,
    ⟨(some 77), .p .min, [.tmp 72, .tmp 76], none⟩,
    ⟨(some 78), .p (.fieldAddr 1), [.tmp 11], none⟩,
    ⟨(some 79), .r (.load none), [.tmp 78], none⟩,
    ⟨(some 80), .p (.build [(.int .i64 0), (.int .i64 0), (.int .i64 0), (.int .i64 0), (.int .i64 0), (.str []), (.str []), (.str []), (.int .i64 0), (.int .i64 0), (.str []), .nilslice, (.bool false), (.str []), (.int .i64 0), (.int .u64 0), (.int .u64 0), (.int .i64 0), .nilslice, (.int .i64 0), (.int .i64 0)] [(0, 1), (3, 1)]), [.lit (.int .i64 2), .tmp 79], none⟩,
    ⟨(some 81), .p (.build [(.int .i64 0), (.int .i64 0), (.int .i64 0), (.int .i64 0), (.int .i64 0), (.int .i64 0), (.int .i64 0), (.int .i64 0), (.int .i64 0), (.str []), (.str []), (.str []), (.int .i64 0), (.int .i64 0), (.str []), .nilslice, (.bool false), (.str []), (.int .i64 0), (.int .u64 0), (.int .u64 0), (.int .i64 0), .nilslice, (.int .i64 0), (.int .i64 0)] [(0, 1), (1, 1), (2, 1), (3, 1), (4, 21)]), [.tmp 63, .tmp 64, .tmp 68, .tmp 77, .tmp 80], none⟩], [], some ⟨none, .h (.store 25), [.tmp 16, .tmp 81], none⟩⟩,
   ⟨[], [], none⟩])
  .skip))
  (.seq (.reg [⟨(some 83), .p .move, [.tmp 7], none⟩,
    ⟨(some 84), .r (.load (some 25)), [.tmp 16], none⟩,
    ⟨(some 85), .h (.call 12), [.tmp 83, .tmp 84], none⟩,
    ⟨(some 82), .p .move, [.tmp 85], none⟩,
    ⟨(some 86), .p (.extract 0), [.tmp 82], none⟩,
    ⟨(some 87), .p (.extract 1), [.tmp 82], none⟩,
    ⟨(some 88), .p (.extract 2), [.tmp 82], none⟩,
    ⟨(some 18), .a (.alloc [(.int .i64 0), (.int .i64 0), (.int .i64 0), (.int .i64 0), (.int .i64 0), (.int .i64 0), (.int .i64 0), (.int .i64 0), (.int .i64 0), (.str []), (.str []), (.str []), (.int .i64 0), (.int .i64 0), (.str []), .nilslice, (.bool false), (.str []), (.int .i64 0), (.int .u64 0), (.int .u64 0), (.int .i64 0), .nilslice, (.int .i64 0), (.int .i64 0)]), [], none⟩,
    ⟨(some 17), .p .move, [.tmp 86], none⟩,
    ⟨none, .h (.store 25), [.tmp 18, .tmp 87], none⟩,
    ⟨(some 19), .p .move, [.tmp 88], none⟩])
  (.seq (.reg [⟨(some 90), .p .move, [.tmp 8], none⟩,
    ⟨(some 91), .r (.load (some 25)), [.tmp 16], none⟩,
    ⟨(some 92), .h (.call 21), [.tmp 90, .tmp 91], none⟩,
    ⟨(some 89), .p .move, [.tmp 92], none⟩,
    ⟨(some 93), .p (.extract 0), [.tmp 89], none⟩,
    ⟨(some 94), .p (.extract 1), [.tmp 89], none⟩,
    ⟨(some 95), .p (.extract 2), [.tmp 89], none⟩,
    ⟨(some 21), .a (.alloc [(.int .i64 0), (.int .i64 0), (.int .i64 0), (.int .i64 0), (.int .i64 0), (.int .i64 0), (.int .i64 0), (.int .i64 0), (.int .i64 0), (.str []), (.str []), (.str []), (.int .i64 0), (.int .i64 0), (.str []), .nilslice, (.bool false), (.str []), (.int .i64 0), (.int .u64 0), (.int .u64 0), (.int .i64 0), .nilslice, (.int .i64 0), (.int .i64 0)]), [], none⟩,
    ⟨(some 20), .p .move, [.tmp 93], none⟩,
    ⟨none, .h (.store 25), [.tmp 21, .tmp 94], none⟩,
    ⟨(some 22), .p .move, [.tmp 95], none⟩])
  (.seq (.reg [⟨(some 96), .p .move, [.tmp 9], none⟩,
    ⟨(some 97), .p .move, [.tmp 17], none⟩,
    ⟨(some 98), .h (.call 22), [.tmp 96, .tmp 97], none⟩])
  (.seq (.reg [⟨(some 99), .p .move, [.tmp 17], none⟩,
    ⟨(some 100), .p .move, [.tmp 20], none⟩,
    ⟨(some 101), .h (.call 23), [.tmp 99, .tmp 100], none⟩,
    ⟨(some 102), .p .not, [.tmp 101], none⟩,
    ⟨(some 103), .p .move, [.tmp 102], none⟩,
    ⟨(some 104), .r (.load (some 25)), [.tmp 18], some (103, false)⟩,
    ⟨(some 105), .r (.load (some 25)), [.tmp 21], some (103, false)⟩,
    ⟨(some 106), .h (.call 17), [.tmp 104, .tmp 105], some (103, false)⟩,
    ⟨(some 107), .p .not, [.tmp 106], some (103, false)⟩,
    ⟨(some 108), .p .pick, [.tmp 103, .lit (.bool true), .tmp 107], none⟩,
    ⟨(some 109), .p .move, [.tmp 108], none⟩,
    ⟨(some 110), .p .move, [.tmp 19], some (109, false)⟩,
    ⟨(some 111), .p .move, [.tmp 22], some (109, false)⟩,
    ⟨(some 112), .p (.eq true .bool), [.tmp 110, .tmp 111], some (109, false)⟩,
    ⟨(some 113), .p .pick, [.tmp 109, .lit (.bool true), .tmp 112], none⟩])
  (.cond (.tmp 113) (.seq (.reg [⟨(some 6), .p .move, [.lit (.bool false)], none⟩])
  .ret)
  .skip)))))))))))))
  (.seq (.dreg [⟨[⟨(some 154), .p .move, [.tmp 7], none⟩,
    ⟨(some 156), .p .move, [.tmp 8], none⟩,
    ⟨(some 157), .p .nilCheck, [.tmp 156], none⟩,
    ⟨(some 158), .p (.fieldAddr 3), [.tmp 157], none⟩,
    ⟨(some 159), .r (.load none), [.tmp 158], none⟩,
    ⟨(some 160), .p .lenSl, [.tmp 159], none⟩], [], some ⟨(some 155), .h (.call 16), [.tmp 154], none⟩⟩,
   ⟨[⟨(some 161), .p (.bin .neq), [.tmp 155, .tmp 160], none⟩,
    ⟨(some 162), .p .move, [.tmp 161], none⟩,
    ⟨(some 163), .p .move, [.tmp 7], some (162, false)⟩,
    ⟨(some 165), .p .move, [.tmp 8], some (162, false)⟩,
    ⟨(some 166), .p .nilCheck, [.tmp 165], some (162, false)⟩,
    ⟨(some 167), .p (.fieldAddr 4), [.tmp 166], some (162, false)⟩,
    ⟨(some 168), .r (.load none), [.tmp 167], some (162, false)⟩], [⟨(some 159), .r (.load none), [.tmp 158], none⟩], some ⟨(some 164), .h (.call 13), [.tmp 163], some (162, false)⟩⟩,
   ⟨[⟨(some 169), .p (.bin .neq), [.tmp 164, .tmp 168], some (162, false)⟩,
    ⟨(some 170), .p .pick, [.tmp 162, .lit (.bool true), .tmp 169], none⟩,
    ⟨(some 171), .p .move, [.tmp 170], none⟩,
    ⟨(some 172), .p .move, [.tmp 7], some (171, false)⟩,
    ⟨(some 174), .p .move, [.tmp 8], some (171, false)⟩,
    ⟨(some 175), .p .nilCheck, [.tmp 174], some (171, false)⟩,
    ⟨(some 176), .p (.fieldAddr 3), [.tmp 175], some (171, false)⟩,
    ⟨(some 177), .r (.load none), [.tmp 176], some (171, false)⟩,
    ⟨(some 178), .p .lenSl, [.tmp 177], some (171, false)⟩,
    ⟨(some 179), .p .move, [.tmp 8], some (171, false)⟩,
    ⟨(some 180), .p .nilCheck, [.tmp 179], some (171, false)⟩,
    ⟨(some 181), .p (.fieldAddr 5), [.tmp 180], some (171, false)⟩,
    ⟨(some 182), .r (.load none), [.tmp 181], some (171, false)⟩,
    ⟨(some 183), .p .lenSl, [.tmp 182], some (171, false)⟩,
    ⟨(some 184), .p (.bin .add), [.tmp 178, .tmp 183], some (171, false)⟩,
    ⟨(some 185), .p (.bin .eql), [.tmp 184, .lit (.int .i64 0)], some (171, false)⟩], [⟨(some 168), .r (.load none), [.tmp 167], some (162, false)⟩], some ⟨(some 173), .h (.call 14), [.tmp 172], some (171, false)⟩⟩,
   ⟨[⟨(some 186), .p (.eq true .bool), [.tmp 173, .tmp 185], some (171, false)⟩,
    ⟨(some 187), .p .pick, [.tmp 171, .lit (.bool true), .tmp 186], none⟩], [⟨(some 177), .r (.load none), [.tmp 176], some (171, false)⟩,
    ⟨(some 182), .r (.load none), [.tmp 181], some (171, false)⟩], none⟩])
  (.cond (.tmp 187) (.seq (.reg [⟨(some 6), .p .move, [.lit (.bool false)], none⟩])
  .ret)
  .skip)))))
  (.reg [⟨(some 50), .p .move, [.tmp 10], none⟩,
    ⟨(some 51), .p (.bin .add), [.tmp 50, .lit (.int .i64 1)], none⟩,
    ⟨(some 10), .p .move, [.tmp 51], none⟩]))))))
  (.seq (.reg [⟨(some 23), .p .move, [.lit .nilptr], none⟩])
  (.seq (.reg [⟨(some 189), .p .move, [.tmp 23], none⟩,
    ⟨(some 190), .p (.build [(.int .i64 0), (.int .i64 0), (.int .i64 0), (.int .i64 0), (.int .i64 0), (.int .i64 0), (.int .i64 0), (.int .i64 0), (.int .i64 0), (.str []), (.str []), (.str []), (.int .i64 0), (.int .i64 0), (.str []), .nilslice, (.bool false), (.str []), (.int .i64 0), (.int .u64 0), (.int .u64 0), (.int .i64 0), .nilslice, (.int .i64 0), (.int .i64 0)] []), [], none⟩,
    ⟨(some 191), .h (.call 12), [.tmp 189, .tmp 190], none⟩,
    ⟨(some 188), .p .move, [.tmp 191], none⟩,
    ⟨(some 192), .p (.extract 0), [.tmp 188], none⟩,
    ⟨(some 193), .p (.extract 1), [.tmp 188], none⟩,
    ⟨(some 194), .p (.extract 2), [.tmp 188], none⟩,
    ⟨(some 25), .a (.alloc [(.int .i64 0), (.int .i64 0), (.int .i64 0), (.int .i64 0), (.int .i64 0), (.int .i64 0), (.int .i64 0), (.int .i64 0), (.int .i64 0), (.str []), (.str []), (.str []), (.int .i64 0), (.int .i64 0), (.str []), .nilslice, (.bool false), (.str []), (.int .i64 0), (.int .u64 0), (.int .u64 0), (.int .i64 0), .nilslice, (.int .i64 0), (.int .i64 0)]), [], none⟩,
    ⟨(some 24), .p .move, [.tmp 192], none⟩,
    ⟨none, .h (.store 25), [.tmp 25, .tmp 193], none⟩,
    ⟨(some 26), .p .move, [.tmp 194], none⟩])
  (.seq (.reg [⟨(some 195), .p .move, [.tmp 26], none⟩,
    ⟨(some 196), .p .not, [.tmp 195], none⟩,
    ⟨(some 197), .p .move, [.tmp 196], none⟩,
    ⟨(some 198), .p .move, [.tmp 23], some (197, true)⟩,
    ⟨(some 199), .p (.build [(.int .i64 0), (.int .i64 0), (.int .i64 0), (.int .i64 0), (.int .i64 0), (.str []), (.str []), (.str []), (.int .i64 0), (.int .i64 0), (.str []), .nilslice, (.bool false), (.str []), (.int .i64 0), (.int .u64 0), (.int .u64 0), (.int .i64 0), .nilslice, (.int .i64 0), (.int .i64 0)] [(0, 1)]), [.lit (.int .i64 1)], some (197, true)⟩,
    ⟨(some 200), .h (.call 15), [.tmp 198, .tmp 199], some (197, true)⟩,
    ⟨(some 201), .p (.build [(.int .i64 0), (.int .i64 0), (.int .i64 0), (.int .i64 0), (.int .i64 0), (.int .i64 0), (.int .i64 0), (.int .i64 0), (.int .i64 0), (.str []), (.str []), (.str []), (.int .i64 0), (.int .i64 0), (.str []), .nilslice, (.bool false), (.str []), (.int .i64 0), (.int .u64 0), (.int .u64 0), (.int .i64 0), .nilslice, (.int .i64 0), (.int .i64 0)] []), [], some (197, true)⟩,
    ⟨(some 202), .h (.call 17), [.tmp 200, .tmp 201], some (197, true)⟩,
    ⟨(some 203), .p .pick, [.tmp 197, .tmp 202, .lit (.bool false)], none⟩,
    ⟨(some 204), .p .move, [.tmp 203], none⟩,
    ⟨(some 205), .p .move, [.tmp 23], some (204, true)⟩,
    ⟨(some 206), .h (.call 19), [.tmp 205], some (204, true)⟩,
    ⟨(some 207), .p .lenSl, [.tmp 206], some (204, true)⟩,
    ⟨(some 208), .p .move, [.tmp 23], some (204, true)⟩,
    ⟨(some 209), .h (.call 16), [.tmp 208], some (204, true)⟩,
    ⟨(some 210), .p (.bin .add), [.tmp 207, .tmp 209], some (204, true)⟩,
    ⟨(some 211), .p .move, [.tmp 23], some (204, true)⟩,
    ⟨(some 212), .h (.call 13), [.tmp 211], some (204, true)⟩,
    ⟨(some 213), .p (.bin .add), [.tmp 210, .tmp 212], some (204, true)⟩,
    ⟨(some 214), .p (.bin .eql), [.tmp 213, .lit (.int .i64 0)], some (204, true)⟩,
    ⟨(some 215), .p .pick, [.tmp 204, .tmp 214, .lit (.bool false)], none⟩,
    ⟨(some 216), .p .move, [.tmp 215], none⟩,
    ⟨(some 217), .p .move, [.tmp 23], some (216, true)⟩,
    ⟨(some 218), .h (.call 14), [.tmp 217], some (216, true)⟩,
    ⟨(some 219), .p .pick, [.tmp 216, .tmp 218, .lit (.bool false)], none⟩,
    ⟨(some 220), .p .move, [.tmp 219], none⟩,
    ⟨(some 221), .p .move, [.tmp 9], some (220, true)⟩,
    ⟨(some 222), .h (.call 24), [.tmp 221], some (220, true)⟩,
    ⟨(some 223), .p .pick, [.tmp 220, .tmp 222, .lit (.bool false)], none⟩,
    ⟨(some 6), .p .move, [.tmp 223], none⟩])
  .ret))))))))), [.tmp 6]⟩
theorem c6 : cFunc Go.Proofs.Try.prog false 3 Go.Proofs.Try.f6 = some sf6 := by kernel_rfl
def ss6 : List Sh := [(.int .i64), (.int .i64), (.sl 288 (.st [(.int .i64), (.int .i64), (.st [(.int .i64), (.int .i64), (.int .i64), (.int .i64), (.st [(.int .i64), (.int .i64), (.int .i64), (.int .i64), (.st [(.int .i64), .str, .str, .str, (.int .i64)]), (.st [(.int .i64), .str, (.sl 32 (.st [.str, .str])), .bool, .str, (.int .i64)]), (.st [(.int .u64), (.int .u64)]), (.int .i64), (.sl 32 (.st [.str, .str])), (.int .i64), (.int .i64)])])]))]
theorem cs6 : shsOf Go.Proofs.Try.prog 12 Go.Proofs.Try.f6.params.toList = some ss6 := by kernel_rfl

/-- rosary/rosarylaw9.LinkOnce -/
def sf7 : SFunc := ⟨2, 241, (.seq (.reg [⟨(some 4), .p .move, [.lit (.bool false)], none⟩])
  (.seq (.seq (.reg [⟨(some 29), .p .move, [.tmp 0], none⟩,
    ⟨(some 30), .p (.bin .lss), [.tmp 29, .lit (.int .i64 0)], none⟩,
    ⟨(some 31), .p .move, [.tmp 30], none⟩,
    ⟨(some 32), .p .move, [.tmp 0], some (31, false)⟩,
    ⟨(some 33), .p (.bin .gtr), [.tmp 32, .lit (.int .i64 40)], some (31, false)⟩,
    ⟨(some 34), .p .pick, [.tmp 31, .lit (.bool true), .tmp 33], none⟩,
    ⟨(some 35), .p .move, [.tmp 34], none⟩,
    ⟨(some 36), .p .move, [.tmp 1], some (35, false)⟩,
    ⟨(some 37), .p .lenSl, [.tmp 36], some (35, false)⟩,
    ⟨(some 38), .p (.bin .gtr), [.tmp 37, .lit (.int .i64 200)], some (35, false)⟩,
    ⟨(some 39), .p .pick, [.tmp 35, .lit (.bool true), .tmp 38], none⟩,
    ⟨(some 40), .p .move, [.tmp 39], none⟩,
    ⟨(some 41), .h (.call 10), [], some (40, false)⟩,
    ⟨(some 42), .p .not, [.tmp 41], some (40, false)⟩,
    ⟨(some 43), .p .pick, [.tmp 40, .lit (.bool true), .tmp 42], none⟩])
  (.cond (.tmp 43) (.seq (.reg [⟨(some 44), .h (.call 10), [], none⟩,
    ⟨(some 4), .p .move, [.tmp 44], none⟩])
  .ret)
  .skip))
  (.seq (.reg [⟨(some 45), .h (.call 11), [.lit (.int .i64 1), .lit (.int .i64 2)], none⟩,
    ⟨(some 46), .h (.call 11), [.lit (.int .i64 2), .lit (.int .i64 1)], none⟩,
    ⟨(some 5), .p .move, [.tmp 45], none⟩,
    ⟨(some 6), .p .move, [.tmp 46], none⟩])
  (.seq (.seq (.reg [⟨(some 47), .p .move, [.tmp 5], none⟩,
    ⟨(some 48), .p (.eq false .ptr), [.tmp 47, .lit .nilptr], none⟩,
    ⟨(some 49), .p .move, [.tmp 48], none⟩,
    ⟨(some 50), .p .move, [.tmp 6], some (49, false)⟩,
    ⟨(some 51), .p (.eq false .ptr), [.tmp 50, .lit .nilptr], some (49, false)⟩,
    ⟨(some 52), .p .pick, [.tmp 49, .lit (.bool true), .tmp 51], none⟩])
  (.cond (.tmp 52) (.seq (.reg [⟨(some 4), .p .move, [.lit (.bool false)], none⟩])
  .ret)
  .skip))
  (.seq (.reg [⟨(some 7), .p .move, [.lit .nilslice], none⟩,
    ⟨(some 8), .p .move, [.lit .nilslice], none⟩])
  (.seq (.reg [⟨(some 9), .p .move, [.lit .nilslice], none⟩])
  (.seq (.reg [⟨(some 10), .p .move, [.lit (.int .i64 0)], none⟩])
  (.seq (.seq (.reg [⟨(some 53), .p .move, [.tmp 1], none⟩,
    ⟨(some 54), .p .lenSl, [.tmp 53], none⟩,
    ⟨(some 55), .p .move, [.lit (.int .i64 0)], none⟩])
  (.block 0 (.loop [0, 5, 6, 7, 8, 9, 10, 53, 54, 55] (.seq (.reg [⟨(some 56), .p (.bin .lss), [.tmp 55, .tmp 54], none⟩])
  (.seq (.cond (.tmp 56) .skip
  (.exit 0))
  (.seq (.block 1 (.seq (.reg [⟨(some 57), .p (.indexAddr 1), [.tmp 53, .tmp 55], none⟩,
    ⟨(some 58), .r (.load none), [.tmp 57], none⟩,
    ⟨(some 12), .p .move, [.tmp 58], none⟩])
  (.seq (.reg [⟨(some 59), .p .move, [.tmp 12], none⟩,
    ⟨(some 60), .p (.bin .and), [.tmp 59, .lit (.int .i64 7)], none⟩])
  (.block 2 (.seq (.seq (.reg [⟨(some 62), .p (.bin .eql), [.tmp 60, .lit (.int .i64 0)], none⟩,
    ⟨(some 61), .p .move, [.tmp 62], none⟩])
  (.cond (.tmp 61) .skip
  (.reg [⟨(some 63), .p (.bin .eql), [.tmp 60, .lit (.int .i64 1)], none⟩,
    ⟨(some 61), .p .move, [.tmp 63], none⟩])))
  (.cond (.tmp 61) (.seq (.reg [⟨(some 64), .p .move, [.tmp 10], none⟩,
    ⟨(some 65), .p .move, [.tmp 0], none⟩,
    ⟨(some 66), .p (.bin .lss), [.tmp 64, .tmp 65], none⟩])
  (.cond (.tmp 66) (.seq (.reg [⟨(some 67), .p .move, [.tmp 10], none⟩,
    ⟨(some 68), .p (.bin .add), [.tmp 67, .lit (.int .i64 1)], none⟩,
    ⟨(some 10), .p .move, [.tmp 68], none⟩])
  (.reg [⟨(some 69), .p .move, [.tmp 7], none⟩,
    ⟨(some 70), .p .move, [.tmp 5], none⟩,
    ⟨(some 71), .p .move, [.tmp 10], none⟩,
    ⟨(some 72), .p (.build [(.int .i64 0), (.int .i64 0), (.int .i64 0), (.int .i64 0), (.int .i64 0), (.str []), (.str []), (.str []), (.int .i64 0), (.int .i64 0), (.str []), .nilslice, (.bool false), (.str []), (.int .i64 0), (.int .u64 0), (.int .u64 0), (.int .i64 0), .nilslice, (.int .i64 0), (.int .i64 0)] [(0, 1), (3, 1)]), [.lit (.int .i64 1), .tmp 71], none⟩,
    ⟨(some 73), .h (.call 15), [.tmp 70, .tmp 72], none⟩,
    ⟨(some 74), .a (.buildSlice 25 1 [(.int .i64 0), (.int .i64 0), (.int .i64 0), (.int .i64 0), (.int .i64 0), (.int .i64 0), (.int .i64 0), (.int .i64 0), (.int .i64 0), (.str []), (.str []), (.str []), (.int .i64 0), (.int .i64 0), (.str []), .nilslice, (.bool false), (.str []), (.int .i64 0), (.int .u64 0), (.int .u64 0), (.int .i64 0), .nilslice, (.int .i64 0), (.int .i64 0)] [0]), [.tmp 73], none⟩,
    ⟨(some 75), .h (.append 25 false), [.tmp 69, .tmp 74], none⟩,
    ⟨(some 7), .p .move, [.tmp 75], none⟩]))
  .skip))
  (.seq (.seq (.reg [⟨(some 77), .p (.bin .eql), [.tmp 60, .lit (.int .i64 2)], none⟩,
    ⟨(some 76), .p .move, [.tmp 77], none⟩])
  (.cond (.tmp 76) .skip
  (.seq (.reg [⟨(some 78), .p (.bin .eql), [.tmp 60, .lit (.int .i64 3)], none⟩,
    ⟨(some 76), .p .move, [.tmp 78], none⟩])
  (.cond (.tmp 76) .skip
  (.reg [⟨(some 79), .p (.bin .eql), [.tmp 60, .lit (.int .i64 4)], none⟩,
    ⟨(some 76), .p .move, [.tmp 79], none⟩])))))
  (.cond (.tmp 76) (.seq (.reg [⟨(some 80), .p .move, [.tmp 7], none⟩,
    ⟨(some 81), .p .lenSl, [.tmp 80], none⟩,
    ⟨(some 82), .p (.bin .gtr), [.tmp 81, .lit (.int .i64 0)], none⟩])
  (.cond (.tmp 82) (.seq (.reg [⟨(some 83), .p .move, [.tmp 12], none⟩,
    ⟨(some 84), .p (.bin .shr), [.tmp 83, .lit (.int .u64 3)], none⟩,
    ⟨(some 85), .p .move, [.tmp 7], none⟩,
    ⟨(some 86), .p .lenSl, [.tmp 85], none⟩,
    ⟨(some 87), .p (.bin .rem), [.tmp 84, .tmp 86], none⟩,
    ⟨(some 88), .p .move, [.tmp 7], none⟩,
    ⟨(some 89), .p .lenSl, [.tmp 88], none⟩,
    ⟨(some 90), .p (.bin .add), [.tmp 87, .tmp 89], none⟩,
    ⟨(some 91), .p .move, [.tmp 7], none⟩,
    ⟨(some 92), .p .lenSl, [.tmp 91], none⟩,
    ⟨(some 93), .p (.bin .rem), [.tmp 90, .tmp 92], none⟩,
    ⟨(some 13), .p .move, [.tmp 93], none⟩])
  (.seq (.reg [⟨(some 94), .p .move, [.tmp 7], none⟩,
    ⟨(some 95), .p .move, [.tmp 13], none⟩,
    ⟨(some 96), .p (.indexAddr 25), [.tmp 94, .tmp 95], none⟩,
    ⟨(some 97), .r (.load (some 25)), [.tmp 96], none⟩,
    ⟨(some 14), .a (.alloc [(.int .i64 0), (.int .i64 0), (.int .i64 0), (.int .i64 0), (.int .i64 0), (.int .i64 0), (.int .i64 0), (.int .i64 0), (.int .i64 0), (.str []), (.str []), (.str []), (.int .i64 0), (.int .i64 0), (.str []), .nilslice, (.bool false), (.str []), (.int .i64 0), (.int .u64 0), (.int .u64 0), (.int .i64 0), .nilslice, (.int .i64 0), (.int .i64 0)]), [], none⟩,
    ⟨none, .h (.store 25), [.tmp 14, .tmp 97], none⟩])
  (.seq (.seq (.reg [⟨(some 98), .p .move, [.tmp 12], none⟩,
    ⟨(some 99), .p (.bin .and), [.tmp 98, .lit (.int .i64 7)], none⟩,
    ⟨(some 100), .p (.bin .eql), [.tmp 99, .lit (.int .i64 3)], none⟩])
  (.cond (.tmp 100) (.dreg [⟨[⟨(some 101), .p .move, [.tmp 7], none⟩,
    ⟨(some 102), .p .move, [.tmp 13], none⟩,
    ⟨(some 103), .p (.sliceSl 25 false true false), [.tmp 101, .tmp 102], none⟩,
    ⟨(some 105), .p .move, [.tmp 7], none⟩,
    ⟨(some 106), .p .move, [.tmp 13], none⟩,
    ⟨(some 107), .p (.bin .add), [.tmp 106, .lit (.int .i64 1)], none⟩,
    ⟨(some 108), .p (.sliceSl 25 true false false), [.tmp 105, .tmp 107], none⟩], [], some ⟨(some 104), .h (.append 25 false), [.lit .nilslice, .tmp 103], none⟩⟩,
   ⟨[], [], some ⟨(some 109), .h (.append 25 false), [.tmp 104, .tmp 108], none⟩⟩,
   ⟨[⟨(some 7), .p .move, [.tmp 109], none⟩], [], none⟩])
  .skip))
  (.seq (.seq (.reg [⟨(some 110), .p .move, [.tmp 12], none⟩,
    ⟨(some 111), .p (.bin .and), [.tmp 110, .lit (.int .i64 7)], none⟩,
    ⟨(some 112), .p (.bin .eql), [.tmp 111, .lit (.int .i64 4)], none⟩])
  (.cond (.tmp 112) (.exit 1)
  .skip))
  (.seq (.reg [⟨(some 114), .p .move, [.tmp 6], none⟩,
    ⟨(some 115), .r (.load (some 25)), [.tmp 14], none⟩,
    ⟨(some 116), .h (.call 12), [.tmp 114, .tmp 115], none⟩,
    ⟨(some 113), .p .move, [.tmp 116], none⟩,
    ⟨(some 117), .p (.extract 0), [.tmp 113], none⟩,
    ⟨(some 118), .p (.extract 1), [.tmp 113], none⟩,
    ⟨(some 119), .p (.extract 2), [.tmp 113], none⟩,
    ⟨(some 16), .a (.alloc [(.int .i64 0), (.int .i64 0), (.int .i64 0), (.int .i64 0), (.int .i64 0), (.int .i64 0), (.int .i64 0), (.int .i64 0), (.int .i64 0), (.str []), (.str []), (.str []), (.int .i64 0), (.int .i64 0), (.str []), .nilslice, (.bool false), (.str []), (.int .i64 0), (.int .u64 0), (.int .u64 0), (.int .i64 0), .nilslice, (.int .i64 0), (.int .i64 0)]), [], none⟩,
    ⟨(some 15), .p .move, [.tmp 117], none⟩,
    ⟨none, .h (.store 25), [.tmp 16, .tmp 118], none⟩,
    ⟨(some 17), .p .move, [.tmp 119], none⟩])
  (.seq (.seq (.reg [⟨(some 120), .p .move, [.tmp 17], none⟩,
    ⟨(some 121), .p .not, [.tmp 120], none⟩])
  (.cond (.tmp 121) (.seq (.reg [⟨(some 4), .p .move, [.lit (.bool false)], none⟩])
  .ret)
  .skip))
  (.dreg [⟨[⟨(some 122), .p .move, [.tmp 9], none⟩,
    ⟨(some 123), .p .move, [.tmp 15], none⟩,
    ⟨(some 125), .p .move, [.tmp 8], none⟩,
    ⟨(some 126), .r (.load (some 25)), [.tmp 16], none⟩,
    ⟨(some 127), .a (.buildSlice 25 1 [(.int .i64 0), (.int .i64 0), (.int .i64 0), (.int .i64 0), (.int .i64 0), (.int .i64 0), (.int .i64 0), (.int .i64 0), (.int .i64 0), (.str []), (.str []), (.str []), (.int .i64 0), (.int .i64 0), (.str []), .nilslice, (.bool false), (.str []), (.int .i64 0), (.int .u64 0), (.int .u64 0), (.int .i64 0), .nilslice, (.int .i64 0), (.int .i64 0)] [0]), [.tmp 126], none⟩], [], some ⟨(some 124), .h (.append 21 false), [.tmp 122, .tmp 123], none⟩⟩,
   ⟨[], [⟨(some 126), .r (.load (some 25)), [.tmp 16], none⟩], some ⟨(some 128), .h (.append 25 false), [.tmp 125, .tmp 127], none⟩⟩,
   ⟨[⟨(some 9), .p .move, [.tmp 124], none⟩,
    ⟨(some 8), .p .move, [.tmp 128], none⟩], [], none⟩])))))))
  .skip))
  (.seq (.reg [⟨(some 130), .p (.bin .eql), [.tmp 60, .lit (.int .i64 5)], none⟩,
    ⟨(some 129), .p .move, [.tmp 130], none⟩])
  (.cond (.tmp 129) (.seq (.reg [⟨(some 131), .p .move, [.tmp 8], none⟩,
    ⟨(some 132), .p .lenSl, [.tmp 131], none⟩,
    ⟨(some 133), .p (.bin .gtr), [.tmp 132, .lit (.int .i64 0)], none⟩])
  (.cond (.tmp 133) (.seq (.reg [⟨(some 134), .p .move, [.tmp 12], none⟩,
    ⟨(some 135), .p (.bin .shr), [.tmp 134, .lit (.int .u64 3)], none⟩,
    ⟨(some 136), .p .move, [.tmp 8], none⟩,
    ⟨(some 137), .p .lenSl, [.tmp 136], none⟩,
    ⟨(some 138), .p (.bin .rem), [.tmp 135, .tmp 137], none⟩,
    ⟨(some 139), .p .move, [.tmp 8], none⟩,
    ⟨(some 140), .p .lenSl, [.tmp 139], none⟩,
    ⟨(some 141), .p (.bin .add), [.tmp 138, .tmp 140], none⟩,
    ⟨(some 142), .p .move, [.tmp 8], none⟩,
    ⟨(some 143), .p .lenSl, [.tmp 142], none⟩,
    ⟨(some 144), .p (.bin .rem), [.tmp 141, .tmp 143], none⟩,
    ⟨(some 18), .p .move, [.tmp 144], none⟩])
  (.seq (.seq (.reg [⟨(some 146), .p .move, [.tmp 5], none⟩,
    ⟨(some 147), .p .move, [.tmp 8], none⟩,
    ⟨(some 148), .p .move, [.tmp 18], none⟩,
    ⟨(some 149), .p (.indexAddr 25), [.tmp 147, .tmp 148], none⟩,
    ⟨(some 150), .r (.load (some 25)), [.tmp 149], none⟩,
    ⟨(some 151), .h (.call 12), [.tmp 146, .tmp 150], none⟩,
    ⟨(some 145), .p .move, [.tmp 151], none⟩,
    ⟨(some 152), .p (.extract 0), [.tmp 145], none⟩,
    ⟨(some 153), .p (.extract 1), [.tmp 145], none⟩,
    ⟨(some 154), .p (.extract 2), [.tmp 145], none⟩,
    ⟨(some 20), .a (.alloc [(.int .i64 0), (.int .i64 0), (.int .i64 0), (.int .i64 0), (.int .i64 0), (.int .i64 0), (.int .i64 0), (.int .i64 0), (.int .i64 0), (.str []), (.str []), (.str []), (.int .i64 0), (.int .i64 0), (.str []), .nilslice, (.bool false), (.str []), (.int .i64 0), (.int .u64 0), (.int .u64 0), (.int .i64 0), .nilslice, (.int .i64 0), (.int .i64 0)]), [], none⟩,
    ⟨(some 19), .p .move, [.tmp 152], none⟩,
    ⟨none, .h (.store 25), [.tmp 20, .tmp 153], none⟩,
    ⟨(some 21), .p .move, [.tmp 154], none⟩])
  (.seq (.reg [⟨(some 155), .p .move, [.tmp 21], none⟩,
    ⟨(some 156), .p .not, [.tmp 155], none⟩])
  (.cond (.tmp 156) (.seq (.reg [⟨(some 4), .p .move, [.lit (.bool false)], none⟩])
  .ret)
  .skip)))
  (.dreg [⟨[⟨(some 157), .p .move, [.tmp 8], none⟩,
    ⟨(some 158), .p .move, [.tmp 18], none⟩,
    ⟨(some 159), .p (.sliceSl 25 false true false), [.tmp 157, .tmp 158], none⟩,
    ⟨(some 161), .p .move, [.tmp 8], none⟩,
    ⟨(some 162), .p .move, [.tmp 18], none⟩,
    ⟨(some 163), .p (.bin .add), [.tmp 162, .lit (.int .i64 1)], none⟩,
    ⟨(some 164), .p (.sliceSl 25 true false false), [.tmp 161, .tmp 163], none⟩], [], some ⟨(some 160), .h (.append 25 false), [.lit .nilslice, .tmp 159], none⟩⟩,
   ⟨[], [], some ⟨(some 165), .h (.append 25 false), [.tmp 160, .tmp 164], none⟩⟩,
   ⟨[⟨(some 8), .p .move, [.tmp 165], none⟩], [], none⟩])))
  .skip))
  (.seq (.reg [⟨(some 167), .p (.bin .eql), [.tmp 60, .lit (.int .i64 6)], none⟩,
    ⟨(some 166), .p .move, [.tmp 167], none⟩])
  (.cond (.tmp 166) (.reg [⟨(some 168), .p .move, [.tmp 7], none⟩,
    ⟨(some 169), .p .move, [.tmp 5], none⟩,
    ⟨(some 170), .h (.call 19), [.tmp 169], none⟩,
    ⟨(some 171), .h (.append 25 false), [.tmp 168, .tmp 170], none⟩,
    ⟨(some 7), .p .move, [.tmp 171], none⟩])
  (.reg [⟨(some 7), .p .move, [.lit .nilslice], none⟩,
    ⟨(some 8), .p .move, [.lit .nilslice], none⟩])))))))))))))
  (.reg [⟨(some 172), .p (.bin .add), [.tmp 55, .lit (.int .i64 1)], none⟩,
    ⟨(some 55), .p .move, [.tmp 172], none⟩])))))))
  (.seq (.seq (.reg [⟨(some 22), .p .move, [.lit (.int .i64 0)], none⟩])
  (.block 3 (.loop [5, 6, 9, 10, 22] (.seq (.seq (.reg [⟨(some 173), .p .move, [.tmp 22], none⟩,
    ⟨(some 174), .p (.bin .lss), [.tmp 173, .lit (.int .i64 40)], none⟩,
    ⟨(some 175), .p .move, [.tmp 174], none⟩,
    ⟨(some 176), .p .move, [.tmp 5], some (175, true)⟩,
    ⟨(some 177), .h (.call 14), [.tmp 176], some (175, true)⟩,
    ⟨(some 178), .p .move, [.tmp 177], some (175, true)⟩,
    ⟨(some 179), .p .move, [.tmp 6], some (178, true)⟩,
    ⟨(some 180), .h (.call 14), [.tmp 179], some (178, true)⟩,
    ⟨(some 181), .p .pick, [.tmp 178, .tmp 180, .lit (.bool false)], some (175, true)⟩,
    ⟨(some 182), .p .not, [.tmp 181], some (175, true)⟩,
    ⟨(some 183), .p .pick, [.tmp 175, .tmp 182, .lit (.bool false)], none⟩])
  (.cond (.tmp 183) .skip
  (.exit 3)))
  (.seq (.block 4 (.seq (.reg [⟨(some 186), .p .move, [.tmp 5], none⟩,
    ⟨(some 187), .h (.call 19), [.tmp 186], none⟩,
    ⟨(some 188), .p .lenSl, [.tmp 187], none⟩,
    ⟨(some 189), .p .move, [.lit (.int .i64 0)], none⟩])
  (.block 5 (.loop [5, 6, 9, 10, 22, 187, 188, 189] (.seq (.reg [⟨(some 190), .p (.bin .lss), [.tmp 189, .tmp 188], none⟩])
  (.seq (.cond (.tmp 190) .skip
  (.exit 5))
  (.seq (.block 6 (.seq (.reg [⟨(some 191), .p (.indexAddr 25), [.tmp 187, .tmp 189], none⟩,
    ⟨(some 192), .r (.load (some 25)), [.tmp 191], none⟩,
    ⟨(some 24), .a (.alloc [(.int .i64 0), (.int .i64 0), (.int .i64 0), (.int .i64 0), (.int .i64 0), (.int .i64 0), (.int .i64 0), (.int .i64 0), (.int .i64 0), (.str []), (.str []), (.str []), (.int .i64 0), (.int .i64 0), (.str []), .nilslice, (.bool false), (.str []), (.int .i64 0), (.int .u64 0), (.int .u64 0), (.int .i64 0), .nilslice, (.int .i64 0), (.int .i64 0)]), [], none⟩,
    ⟨none, .h (.store 25), [.tmp 24, .tmp 192], none⟩])
  (.seq (.reg [⟨(some 194), .p .move, [.tmp 6], none⟩,
    ⟨(some 195), .r (.load (some 25)), [.tmp 24], none⟩,
    ⟨(some 196), .h (.call 12), [.tmp 194, .tmp 195], none⟩,
    ⟨(some 193), .p .move, [.tmp 196], none⟩,
    ⟨(some 197), .p (.extract 0), [.tmp 193], none⟩,
    ⟨(some 198), .p (.extract 1), [.tmp 193], none⟩,
    ⟨(some 199), .p (.extract 2), [.tmp 193], none⟩,
    ⟨(some 26), .a (.alloc [(.int .i64 0), (.int .i64 0), (.int .i64 0), (.int .i64 0), (.int .i64 0), (.int .i64 0), (.int .i64 0), (.int .i64 0), (.int .i64 0), (.str []), (.str []), (.str []), (.int .i64 0), (.int .i64 0), (.str []), .nilslice, (.bool false), (.str []), (.int .i64 0), (.int .u64 0), (.int .u64 0), (.int .i64 0), .nilslice, (.int .i64 0), (.int .i64 0)]), [], none⟩,
    ⟨(some 25), .p .move, [.tmp 197], none⟩,
    ⟨none, .h (.store 25), [.tmp 26, .tmp 198], none⟩,
    ⟨(some 27), .p .move, [.tmp 199], none⟩])
  (.seq (.reg [⟨(some 200), .p .move, [.tmp 9], none⟩,
    ⟨(some 201), .p .move, [.tmp 25], none⟩,
    ⟨(some 202), .h (.append 21 false), [.tmp 200, .tmp 201], none⟩,
    ⟨(some 9), .p .move, [.tmp 202], none⟩])
  (.reg [⟨(some 203), .p .move, [.tmp 5], none⟩,
    ⟨(some 204), .r (.load (some 25)), [.tmp 26], none⟩,
    ⟨(some 205), .h (.call 12), [.tmp 203, .tmp 204], none⟩])))))
  (.reg [⟨(some 206), .p (.bin .add), [.tmp 189, .lit (.int .i64 1)], none⟩,
    ⟨(some 189), .p .move, [.tmp 206], none⟩]))))))))
  (.reg [⟨(some 184), .p .move, [.tmp 22], none⟩,
    ⟨(some 185), .p (.bin .add), [.tmp 184, .lit (.int .i64 1)], none⟩,
    ⟨(some 22), .p .move, [.tmp 185], none⟩]))))))
  (.seq (.seq (.reg [⟨(some 207), .p .move, [.tmp 9], none⟩,
    ⟨(some 208), .p .lenSl, [.tmp 207], none⟩,
    ⟨(some 209), .p .move, [.tmp 10], none⟩,
    ⟨(some 210), .p (.bin .neq), [.tmp 208, .tmp 209], none⟩,
    ⟨(some 211), .p .move, [.tmp 210], none⟩,
    ⟨(some 212), .p .move, [.tmp 5], some (211, false)⟩,
    ⟨(some 213), .h (.call 14), [.tmp 212], some (211, false)⟩,
    ⟨(some 214), .p .not, [.tmp 213], some (211, false)⟩,
    ⟨(some 215), .p .pick, [.tmp 211, .lit (.bool true), .tmp 214], none⟩,
    ⟨(some 216), .p .move, [.tmp 215], none⟩,
    ⟨(some 217), .p .move, [.tmp 6], some (216, false)⟩,
    ⟨(some 218), .h (.call 14), [.tmp 217], some (216, false)⟩,
    ⟨(some 219), .p .not, [.tmp 218], some (216, false)⟩,
    ⟨(some 220), .p .pick, [.tmp 216, .lit (.bool true), .tmp 219], none⟩,
    ⟨(some 221), .p .move, [.tmp 220], none⟩,
    ⟨(some 222), .p .move, [.tmp 6], some (221, false)⟩,
    ⟨(some 223), .h (.call 13), [.tmp 222], some (221, false)⟩,
    ⟨(some 224), .p .move, [.tmp 10], some (221, false)⟩,
    ⟨(some 225), .p (.bin .neq), [.tmp 223, .tmp 224], some (221, false)⟩,
    ⟨(some 226), .p .pick, [.tmp 221, .lit (.bool true), .tmp 225], none⟩])
  (.cond (.tmp 226) (.seq (.reg [⟨(some 4), .p .move, [.lit (.bool false)], none⟩])
  .ret)
  .skip))
  (.seq (.seq (.reg [⟨(some 28), .p .move, [.lit (.int .i64 0)], none⟩])
  (.block 7 (.loop [9, 28] (.seq (.seq (.reg [⟨(some 227), .p .move, [.tmp 28], none⟩,
    ⟨(some 228), .p .move, [.tmp 9], none⟩,
    ⟨(some 229), .p .lenSl, [.tmp 228], none⟩,
    ⟨(some 230), .p (.bin .lss), [.tmp 227, .tmp 229], none⟩])
  (.cond (.tmp 230) .skip
  (.exit 7)))
  (.seq (.block 8 (.seq (.reg [⟨(some 233), .p .move, [.tmp 9], none⟩,
    ⟨(some 234), .p .move, [.tmp 28], none⟩,
    ⟨(some 235), .p (.indexAddr 21), [.tmp 233, .tmp 234], none⟩,
    ⟨(some 236), .p (.fieldAddr 3), [.tmp 235], none⟩,
    ⟨(some 237), .r (.load none), [.tmp 236], none⟩,
    ⟨(some 238), .p .move, [.tmp 28], none⟩,
    ⟨(some 239), .p (.bin .add), [.tmp 238, .lit (.int .i64 1)], none⟩,
    ⟨(some 240), .p (.bin .neq), [.tmp 237, .tmp 239], none⟩])
  (.cond (.tmp 240) (.seq (.reg [⟨(some 4), .p .move, [.lit (.bool false)], none⟩])
  .ret)
  .skip)))
  (.reg [⟨(some 231), .p .move, [.tmp 28], none⟩,
    ⟨(some 232), .p (.bin .add), [.tmp 231, .lit (.int .i64 1)], none⟩,
    ⟨(some 28), .p .move, [.tmp 232], none⟩]))))))
  (.seq (.reg [⟨(some 4), .p .move, [.lit (.bool true)], none⟩])
  .ret)))))))))))), [.tmp 4]⟩
theorem c7 : cFunc Go.Proofs.Try.prog false 2 Go.Proofs.Try.f7 = some sf7 := by kernel_rfl
def ss7 : List Sh := [(.int .i64), (.sl 8 (.int .i64))]
theorem cs7 : shsOf Go.Proofs.Try.prog 12 Go.Proofs.Try.f7.params.toList = some ss7 := by kernel_rfl

/-- rosary/rosarylaw9.LinkWaits -/
def sf8 : SFunc := ⟨3, 147, (.seq (.reg [⟨(some 6), .p .move, [.lit (.bool false)], none⟩])
  (.seq (.seq (.reg [⟨(some 15), .p .move, [.tmp 0], none⟩,
    ⟨(some 16), .p (.bin .lss), [.tmp 15, .lit (.int .i64 1)], none⟩,
    ⟨(some 17), .p .move, [.tmp 16], none⟩,
    ⟨(some 18), .p .move, [.tmp 0], some (17, false)⟩,
    ⟨(some 19), .p (.bin .gtr), [.tmp 18, .lit (.int .i64 20)], some (17, false)⟩,
    ⟨(some 20), .p .pick, [.tmp 17, .lit (.bool true), .tmp 19], none⟩,
    ⟨(some 21), .p .move, [.tmp 20], none⟩,
    ⟨(some 22), .p .move, [.tmp 1], some (21, false)⟩,
    ⟨(some 23), .p (.bin .lss), [.tmp 22, .lit (.int .i64 0)], some (21, false)⟩,
    ⟨(some 24), .p .pick, [.tmp 21, .lit (.bool true), .tmp 23], none⟩,
    ⟨(some 25), .p .move, [.tmp 24], none⟩,
    ⟨(some 26), .p .move, [.tmp 1], some (25, false)⟩,
    ⟨(some 27), .p (.bin .gtr), [.tmp 26, .lit (.int .i64 40)], some (25, false)⟩,
    ⟨(some 28), .p .pick, [.tmp 25, .lit (.bool true), .tmp 27], none⟩,
    ⟨(some 29), .p .move, [.tmp 28], none⟩,
    ⟨(some 30), .p .move, [.tmp 2], some (29, false)⟩,
    ⟨(some 31), .p (.bin .lss), [.tmp 30, .lit (.int .i64 0)], some (29, false)⟩,
    ⟨(some 32), .p .pick, [.tmp 29, .lit (.bool true), .tmp 31], none⟩,
    ⟨(some 33), .p .move, [.tmp 32], none⟩,
    ⟨(some 34), .p .move, [.tmp 2], some (33, false)⟩,
    ⟨(some 35), .p .move, [.tmp 0], some (33, false)⟩,
    ⟨(some 36), .p (.bin .gtr), [.tmp 34, .tmp 35], some (33, false)⟩,
    ⟨(some 37), .p .pick, [.tmp 33, .lit (.bool true), .tmp 36], none⟩,
    ⟨(some 38), .p .move, [.tmp 37], none⟩,
    ⟨(some 39), .h (.call 10), [], some (38, false)⟩,
    ⟨(some 40), .p .not, [.tmp 39], some (38, false)⟩,
    ⟨(some 41), .p .pick, [.tmp 38, .lit (.bool true), .tmp 40], none⟩])
  (.cond (.tmp 41) (.seq (.reg [⟨(some 42), .h (.call 10), [], none⟩,
    ⟨(some 6), .p .move, [.tmp 42], none⟩])
  .ret)
  .skip))
  (.seq (.reg [⟨(some 43), .h (.call 11), [.lit (.int .i64 3), .lit (.int .i64 4)], none⟩,
    ⟨(some 7), .p .move, [.tmp 43], none⟩])
  (.seq (.seq (.reg [⟨(some 44), .p .move, [.tmp 7], none⟩,
    ⟨(some 45), .p (.eq false .ptr), [.tmp 44, .lit .nilptr], none⟩])
  (.cond (.tmp 45) (.seq (.reg [⟨(some 6), .p .move, [.lit (.bool false)], none⟩])
  .ret)
  .skip))
  (.seq (.seq (.reg [⟨(some 8), .p .move, [.lit (.int .i64 1)], none⟩])
  (.block 0 (.loop [0, 1, 2, 7, 8] (.seq (.seq (.reg [⟨(some 46), .p .move, [.tmp 8], none⟩,
    ⟨(some 47), .p .move, [.tmp 0], none⟩,
    ⟨(some 48), .p (.bin .leq), [.tmp 46, .tmp 47], none⟩])
  (.cond (.tmp 48) .skip
  (.exit 0)))
  (.seq (.block 1 (.seq (.reg [⟨(some 51), .p .move, [.tmp 7], none⟩,
    ⟨(some 52), .p .move, [.tmp 8], none⟩,
    ⟨(some 53), .p (.build [(.int .i64 0), (.int .i64 0), (.int .i64 0), (.int .i64 0), (.int .i64 0), (.str []), (.str []), (.str []), (.int .i64 0), (.int .i64 0), (.str []), .nilslice, (.bool false), (.str []), (.int .i64 0), (.int .u64 0), (.int .u64 0), (.int .i64 0), .nilslice, (.int .i64 0), (.int .i64 0)] [(0, 1), (3, 1)]), [.lit (.int .i64 1), .tmp 52], none⟩,
    ⟨(some 54), .h (.call 15), [.tmp 51, .tmp 53], none⟩,
    ⟨(some 9), .a (.alloc [(.int .i64 0), (.int .i64 0), (.int .i64 0), (.int .i64 0), (.int .i64 0), (.int .i64 0), (.int .i64 0), (.int .i64 0), (.int .i64 0), (.str []), (.str []), (.str []), (.int .i64 0), (.int .i64 0), (.str []), .nilslice, (.bool false), (.str []), (.int .i64 0), (.int .u64 0), (.int .u64 0), (.int .i64 0), .nilslice, (.int .i64 0), (.int .i64 0)]), [], none⟩,
    ⟨none, .h (.store 25), [.tmp 9, .tmp 54], none⟩])
  (.seq (.reg [⟨(some 55), .p (.fieldAddr 2), [.tmp 9], none⟩,
    ⟨(some 56), .r (.load none), [.tmp 55], none⟩,
    ⟨(some 57), .p .move, [.tmp 8], none⟩,
    ⟨(some 58), .p (.bin .neq), [.tmp 56, .tmp 57], none⟩,
    ⟨(some 59), .p .move, [.tmp 58], none⟩,
    ⟨(some 60), .p (.fieldAddr 0), [.tmp 9], some (59, false)⟩,
    ⟨(some 61), .r (.load none), [.tmp 60], some (59, false)⟩,
    ⟨(some 62), .p (.bin .neq), [.tmp 61, .lit (.int .i64 3)], some (59, false)⟩,
    ⟨(some 63), .p .pick, [.tmp 59, .lit (.bool true), .tmp 62], none⟩,
    ⟨(some 64), .p .move, [.tmp 63], none⟩,
    ⟨(some 65), .p (.fieldAddr 1), [.tmp 9], some (64, false)⟩,
    ⟨(some 66), .r (.load none), [.tmp 65], some (64, false)⟩,
    ⟨(some 67), .p (.bin .neq), [.tmp 66, .lit (.int .i64 4)], some (64, false)⟩,
    ⟨(some 68), .p .pick, [.tmp 64, .lit (.bool true), .tmp 67], none⟩,
    ⟨(some 69), .p .move, [.tmp 68], none⟩,
    ⟨(some 70), .p (.fieldAddr 3), [.tmp 9], some (69, false)⟩,
    ⟨(some 71), .r (.load none), [.tmp 70], some (69, false)⟩,
    ⟨(some 72), .p (.bin .neq), [.tmp 71, .lit (.int .i64 0)], some (69, false)⟩,
    ⟨(some 73), .p .pick, [.tmp 69, .lit (.bool true), .tmp 72], none⟩,
    ⟨(some 74), .p .move, [.tmp 73], none⟩,
    ⟨(some 75), .p (.fieldAddr 4), [.tmp 9], some (74, false)⟩,
    ⟨(some 76), .p (.fieldAddr 3), [.tmp 75], some (74, false)⟩,
    ⟨(some 77), .r (.load none), [.tmp 76], some (74, false)⟩,
    ⟨(some 78), .p .move, [.tmp 8], some (74, false)⟩,
    ⟨(some 79), .p (.bin .neq), [.tmp 77, .tmp 78], some (74, false)⟩,
    ⟨(some 80), .p .pick, [.tmp 74, .lit (.bool true), .tmp 79], none⟩])
  (.cond (.tmp 80) (.seq (.reg [⟨(some 6), .p .move, [.lit (.bool false)], none⟩])
  .ret)
  .skip))))
  (.reg [⟨(some 49), .p .move, [.tmp 8], none⟩,
    ⟨(some 50), .p (.bin .add), [.tmp 49, .lit (.int .i64 1)], none⟩,
    ⟨(some 8), .p .move, [.tmp 50], none⟩]))))))
  (.seq (.seq (.reg [⟨(some 10), .p .move, [.lit (.int .i64 1)], none⟩])
  (.block 2 (.loop [0, 1, 2, 7, 10] (.seq (.seq (.reg [⟨(some 81), .p .move, [.tmp 10], none⟩,
    ⟨(some 82), .p .move, [.tmp 1], none⟩,
    ⟨(some 83), .p (.bin .leq), [.tmp 81, .tmp 82], none⟩])
  (.cond (.tmp 83) .skip
  (.exit 2)))
  (.seq (.block 3 (.seq (.reg [⟨(some 86), .p .move, [.tmp 7], none⟩,
    ⟨(some 87), .h (.call 19), [.tmp 86], none⟩,
    ⟨(some 11), .p .move, [.tmp 87], none⟩])
  (.seq (.reg [⟨(some 88), .p .move, [.tmp 10], none⟩,
    ⟨(some 89), .p (.bin .rem), [.tmp 88, .lit (.int .i64 4)], none⟩,
    ⟨(some 90), .p (.bin .neq), [.tmp 89, .lit (.int .i64 0)], none⟩,
    ⟨(some 91), .p .move, [.tmp 90], none⟩,
    ⟨(some 92), .p .move, [.tmp 11], some (91, true)⟩,
    ⟨(some 93), .p .lenSl, [.tmp 92], some (91, true)⟩,
    ⟨(some 94), .p (.bin .neq), [.tmp 93, .lit (.int .i64 0)], some (91, true)⟩,
    ⟨(some 95), .p .pick, [.tmp 91, .tmp 94, .lit (.bool false)], none⟩,
    ⟨(some 96), .p .move, [.tmp 95], none⟩,
    ⟨(some 97), .p .move, [.tmp 10], some (96, false)⟩,
    ⟨(some 98), .p (.bin .rem), [.tmp 97, .lit (.int .i64 4)], some (96, false)⟩,
    ⟨(some 99), .p (.bin .eql), [.tmp 98, .lit (.int .i64 0)], some (96, false)⟩,
    ⟨(some 100), .p .move, [.tmp 99], some (96, false)⟩,
    ⟨(some 101), .p .move, [.tmp 11], some (100, true)⟩,
    ⟨(some 102), .p .lenSl, [.tmp 101], some (100, true)⟩,
    ⟨(some 103), .p .move, [.tmp 0], some (100, true)⟩,
    ⟨(some 104), .p (.bin .neq), [.tmp 102, .tmp 103], some (100, true)⟩,
    ⟨(some 105), .p .pick, [.tmp 100, .tmp 104, .lit (.bool false)], some (96, false)⟩,
    ⟨(some 106), .p .pick, [.tmp 96, .lit (.bool true), .tmp 105], none⟩])
  (.cond (.tmp 106) (.seq (.reg [⟨(some 6), .p .move, [.lit (.bool false)], none⟩])
  .ret)
  .skip))))
  (.reg [⟨(some 84), .p .move, [.tmp 10], none⟩,
    ⟨(some 85), .p (.bin .add), [.tmp 84, .lit (.int .i64 1)], none⟩,
    ⟨(some 10), .p .move, [.tmp 85], none⟩]))))))
  (.seq (.reg [⟨(some 108), .p .move, [.tmp 7], none⟩,
    ⟨(some 109), .p .move, [.tmp 2], none⟩,
    ⟨(some 110), .p (.build [(.int .i64 0), (.int .i64 0), (.int .i64 0), (.int .i64 0), (.int .i64 0), (.int .i64 0), (.int .i64 0), (.int .i64 0), (.int .i64 0), (.str []), (.str []), (.str []), (.int .i64 0), (.int .i64 0), (.str []), .nilslice, (.bool false), (.str []), (.int .i64 0), (.int .u64 0), (.int .u64 0), (.int .i64 0), .nilslice, (.int .i64 0), (.int .i64 0)] [(0, 1), (1, 1), (3, 1)]), [.lit (.int .i64 4), .lit (.int .i64 3), .tmp 109], none⟩,
    ⟨(some 111), .h (.call 12), [.tmp 108, .tmp 110], none⟩,
    ⟨(some 107), .p .move, [.tmp 111], none⟩,
    ⟨(some 112), .p (.extract 0), [.tmp 107], none⟩,
    ⟨(some 113), .p (.extract 1), [.tmp 107], none⟩,
    ⟨(some 114), .p (.extract 2), [.tmp 107], none⟩,
    ⟨(some 13), .a (.alloc [(.int .i64 0), (.int .i64 0), (.int .i64 0), (.int .i64 0), (.int .i64 0), (.int .i64 0), (.int .i64 0), (.int .i64 0), (.int .i64 0), (.str []), (.str []), (.str []), (.int .i64 0), (.int .i64 0), (.str []), .nilslice, (.bool false), (.str []), (.int .i64 0), (.int .u64 0), (.int .u64 0), (.int .i64 0), .nilslice, (.int .i64 0), (.int .i64 0)]), [], none⟩,
    ⟨(some 12), .p .move, [.tmp 112], none⟩,
    ⟨none, .h (.store 25), [.tmp 13, .tmp 113], none⟩,
    ⟨(some 14), .p .move, [.tmp 114], none⟩])
  (.seq (.reg [⟨(some 115), .p .move, [.tmp 14], none⟩,
    ⟨(some 116), .p .move, [.tmp 115], none⟩,
    ⟨(some 117), .p .move, [.tmp 12], some (116, true)⟩,
    ⟨(some 118), .p .lenSl, [.tmp 117], some (116, true)⟩,
    ⟨(some 119), .p (.bin .eql), [.tmp 118, .lit (.int .i64 0)], some (116, true)⟩,
    ⟨(some 120), .p .pick, [.tmp 116, .tmp 119, .lit (.bool false)], none⟩,
    ⟨(some 121), .p .move, [.tmp 120], none⟩,
    ⟨(some 122), .p (.fieldAddr 0), [.tmp 13], some (121, true)⟩,
    ⟨(some 123), .r (.load none), [.tmp 122], some (121, true)⟩,
    ⟨(some 124), .p (.bin .eql), [.tmp 123, .lit (.int .i64 0)], some (121, true)⟩,
    ⟨(some 125), .p .pick, [.tmp 121, .tmp 124, .lit (.bool false)], none⟩,
    ⟨(some 126), .p .move, [.tmp 125], none⟩,
    ⟨(some 127), .p (.fieldAddr 1), [.tmp 13], some (126, true)⟩,
    ⟨(some 128), .r (.load none), [.tmp 127], some (126, true)⟩,
    ⟨(some 129), .p (.bin .eql), [.tmp 128, .lit (.int .i64 0)], some (126, true)⟩,
    ⟨(some 130), .p .pick, [.tmp 126, .tmp 129, .lit (.bool false)], none⟩,
    ⟨(some 131), .p .move, [.tmp 130], none⟩,
    ⟨(some 132), .p .move, [.tmp 7], some (131, true)⟩,
    ⟨(some 133), .h (.call 16), [.tmp 132], some (131, true)⟩,
    ⟨(some 134), .p .move, [.tmp 0], some (131, true)⟩,
    ⟨(some 135), .p .move, [.tmp 2], some (131, true)⟩,
    ⟨(some 136), .p (.bin .sub), [.tmp 134, .tmp 135], some (131, true)⟩,
    ⟨(some 137), .p (.bin .eql), [.tmp 133, .tmp 136], some (131, true)⟩,
    ⟨(some 138), .p .pick, [.tmp 131, .tmp 137, .lit (.bool false)], none⟩,
    ⟨(some 139), .p .move, [.tmp 138], none⟩,
    ⟨(some 140), .p .move, [.tmp 7], some (139, true)⟩,
    ⟨(some 141), .h (.call 14), [.tmp 140], some (139, true)⟩,
    ⟨(some 142), .p .move, [.tmp 2], some (139, true)⟩,
    ⟨(some 143), .p .move, [.tmp 0], some (139, true)⟩,
    ⟨(some 144), .p (.bin .eql), [.tmp 142, .tmp 143], some (139, true)⟩,
    ⟨(some 145), .p (.eq false .bool), [.tmp 141, .tmp 144], some (139, true)⟩,
    ⟨(some 146), .p .pick, [.tmp 139, .tmp 145, .lit (.bool false)], none⟩,
    ⟨(some 6), .p .move, [.tmp 146], none⟩])
  .ret)))))))), [.tmp 6]⟩
theorem c8 : cFunc Go.Proofs.Try.prog false 3 Go.Proofs.Try.f8 = some sf8 := by kernel_rfl
def ss8 : List Sh := [(.int .i64), (.int .i64), (.int .i64)]
theorem cs8 : shsOf Go.Proofs.Try.prog 12 Go.Proofs.Try.f8.params.toList = some ss8 := by kernel_rfl

/-- rosary/rosarylaw9.LinkBoth -/
def sf9 : SFunc := ⟨3, 261, (.seq (.reg [⟨(some 6), .p .move, [.lit (.bool false)], none⟩])
  (.seq (.seq (.reg [⟨(some 36), .p .move, [.tmp 0], none⟩,
    ⟨(some 37), .p (.bin .lss), [.tmp 36, .lit (.int .i64 0)], none⟩,
    ⟨(some 38), .p .move, [.tmp 37], none⟩,
    ⟨(some 39), .p .move, [.tmp 0], some (38, false)⟩,
    ⟨(some 40), .p (.bin .gtr), [.tmp 39, .lit (.int .i64 20)], some (38, false)⟩,
    ⟨(some 41), .p .pick, [.tmp 38, .lit (.bool true), .tmp 40], none⟩,
    ⟨(some 42), .p .move, [.tmp 41], none⟩,
    ⟨(some 43), .p .move, [.tmp 1], some (42, false)⟩,
    ⟨(some 44), .p (.bin .lss), [.tmp 43, .lit (.int .i64 0)], some (42, false)⟩,
    ⟨(some 45), .p .pick, [.tmp 42, .lit (.bool true), .tmp 44], none⟩,
    ⟨(some 46), .p .move, [.tmp 45], none⟩,
    ⟨(some 47), .p .move, [.tmp 1], some (46, false)⟩,
    ⟨(some 48), .p (.bin .gtr), [.tmp 47, .lit (.int .i64 20)], some (46, false)⟩,
    ⟨(some 49), .p .pick, [.tmp 46, .lit (.bool true), .tmp 48], none⟩,
    ⟨(some 50), .p .move, [.tmp 49], none⟩,
    ⟨(some 51), .p .move, [.tmp 2], some (50, false)⟩,
    ⟨(some 52), .p .lenSl, [.tmp 51], some (50, false)⟩,
    ⟨(some 53), .p (.bin .gtr), [.tmp 52, .lit (.int .i64 100)], some (50, false)⟩,
    ⟨(some 54), .p .pick, [.tmp 50, .lit (.bool true), .tmp 53], none⟩,
    ⟨(some 55), .p .move, [.tmp 54], none⟩,
    ⟨(some 56), .h (.call 10), [], some (55, false)⟩,
    ⟨(some 57), .p .not, [.tmp 56], some (55, false)⟩,
    ⟨(some 58), .p .pick, [.tmp 55, .lit (.bool true), .tmp 57], none⟩])
  (.cond (.tmp 58) (.seq (.reg [⟨(some 59), .h (.call 10), [], none⟩,
    ⟨(some 6), .p .move, [.tmp 59], none⟩])
  .ret)
  .skip))
  (.seq (.reg [⟨(some 60), .h (.call 11), [.lit (.int .i64 1), .lit (.int .i64 2)], none⟩,
    ⟨(some 61), .h (.call 11), [.lit (.int .i64 2), .lit (.int .i64 1)], none⟩,
    ⟨(some 7), .p .move, [.tmp 60], none⟩,
    ⟨(some 8), .p .move, [.tmp 61], none⟩])
  (.seq (.seq (.reg [⟨(some 62), .p .move, [.tmp 7], none⟩,
    ⟨(some 63), .p (.eq false .ptr), [.tmp 62, .lit .nilptr], none⟩,
    ⟨(some 64), .p .move, [.tmp 63], none⟩,
    ⟨(some 65), .p .move, [.tmp 8], some (64, false)⟩,
    ⟨(some 66), .p (.eq false .ptr), [.tmp 65, .lit .nilptr], some (64, false)⟩,
    ⟨(some 67), .p .pick, [.tmp 64, .lit (.bool true), .tmp 66], none⟩])
  (.cond (.tmp 67) (.seq (.reg [⟨(some 6), .p .move, [.lit (.bool false)], none⟩])
  .ret)
  .skip))
  (.seq (.reg [⟨(some 9), .p .move, [.lit .nilslice], none⟩,
    ⟨(some 10), .p .move, [.lit .nilslice], none⟩])
  (.seq (.seq (.reg [⟨(some 11), .p .move, [.lit (.int .i64 1)], none⟩])
  (.block 0 (.loop [0, 1, 2, 7, 8, 9, 10, 11] (.seq (.seq (.reg [⟨(some 68), .p .move, [.tmp 11], none⟩,
    ⟨(some 69), .p .move, [.tmp 0], none⟩,
    ⟨(some 70), .p (.bin .leq), [.tmp 68, .tmp 69], none⟩])
  (.cond (.tmp 70) .skip
  (.exit 0)))
  (.seq (.block 1 (.reg [⟨(some 73), .p .move, [.tmp 9], none⟩,
    ⟨(some 74), .p .move, [.tmp 7], none⟩,
    ⟨(some 75), .p .move, [.tmp 11], none⟩,
    ⟨(some 76), .p (.build [(.int .i64 0), (.int .i64 0), (.int .i64 0), (.int .i64 0), (.int .i64 0), (.str []), (.str []), (.str []), (.int .i64 0), (.int .i64 0), (.str []), .nilslice, (.bool false), (.str []), (.int .i64 0), (.int .u64 0), (.int .u64 0), (.int .i64 0), .nilslice, (.int .i64 0), (.int .i64 0)] [(0, 1), (3, 1)]), [.lit (.int .i64 1), .tmp 75], none⟩,
    ⟨(some 77), .h (.call 15), [.tmp 74, .tmp 76], none⟩,
    ⟨(some 78), .a (.buildSlice 25 1 [(.int .i64 0), (.int .i64 0), (.int .i64 0), (.int .i64 0), (.int .i64 0), (.int .i64 0), (.int .i64 0), (.int .i64 0), (.int .i64 0), (.str []), (.str []), (.str []), (.int .i64 0), (.int .i64 0), (.str []), .nilslice, (.bool false), (.str []), (.int .i64 0), (.int .u64 0), (.int .u64 0), (.int .i64 0), .nilslice, (.int .i64 0), (.int .i64 0)] [0]), [.tmp 77], none⟩,
    ⟨(some 79), .h (.append 25 false), [.tmp 73, .tmp 78], none⟩,
    ⟨(some 9), .p .move, [.tmp 79], none⟩]))
  (.reg [⟨(some 71), .p .move, [.tmp 11], none⟩,
    ⟨(some 72), .p (.bin .add), [.tmp 71, .lit (.int .i64 1)], none⟩,
    ⟨(some 11), .p .move, [.tmp 72], none⟩]))))))
  (.seq (.seq (.reg [⟨(some 12), .p .move, [.lit (.int .i64 1)], none⟩])
  (.block 2 (.loop [0, 1, 2, 7, 8, 9, 10, 12] (.seq (.seq (.reg [⟨(some 80), .p .move, [.tmp 12], none⟩,
    ⟨(some 81), .p .move, [.tmp 1], none⟩,
    ⟨(some 82), .p (.bin .leq), [.tmp 80, .tmp 81], none⟩])
  (.cond (.tmp 82) .skip
  (.exit 2)))
  (.seq (.block 3 (.reg [⟨(some 85), .p .move, [.tmp 10], none⟩,
    ⟨(some 86), .p .move, [.tmp 8], none⟩,
    ⟨(some 87), .p .move, [.tmp 12], none⟩,
    ⟨(some 88), .p (.build [(.int .i64 0), (.int .i64 0), (.int .i64 0), (.int .i64 0), (.int .i64 0), (.str []), (.str []), (.str []), (.int .i64 0), (.int .i64 0), (.str []), .nilslice, (.bool false), (.str []), (.int .i64 0), (.int .u64 0), (.int .u64 0), (.int .i64 0), .nilslice, (.int .i64 0), (.int .i64 0)] [(0, 1), (3, 1)]), [.lit (.int .i64 2), .tmp 87], none⟩,
    ⟨(some 89), .h (.call 15), [.tmp 86, .tmp 88], none⟩,
    ⟨(some 90), .a (.buildSlice 25 1 [(.int .i64 0), (.int .i64 0), (.int .i64 0), (.int .i64 0), (.int .i64 0), (.int .i64 0), (.int .i64 0), (.int .i64 0), (.int .i64 0), (.str []), (.str []), (.str []), (.int .i64 0), (.int .i64 0), (.str []), .nilslice, (.bool false), (.str []), (.int .i64 0), (.int .u64 0), (.int .u64 0), (.int .i64 0), .nilslice, (.int .i64 0), (.int .i64 0)] [0]), [.tmp 89], none⟩,
    ⟨(some 91), .h (.append 25 false), [.tmp 85, .tmp 90], none⟩,
    ⟨(some 10), .p .move, [.tmp 91], none⟩]))
  (.reg [⟨(some 83), .p .move, [.tmp 12], none⟩,
    ⟨(some 84), .p (.bin .add), [.tmp 83, .lit (.int .i64 1)], none⟩,
    ⟨(some 12), .p .move, [.tmp 84], none⟩]))))))
  (.seq (.reg [⟨(some 13), .p .move, [.lit .nilslice], none⟩,
    ⟨(some 14), .p .move, [.lit .nilslice], none⟩])
  (.seq (.seq (.reg [⟨(some 92), .p .move, [.tmp 2], none⟩,
    ⟨(some 93), .p .lenSl, [.tmp 92], none⟩,
    ⟨(some 94), .p .move, [.lit (.int .i64 0)], none⟩])
  (.block 4 (.loop [0, 1, 7, 8, 9, 10, 13, 14, 92, 93, 94] (.seq (.reg [⟨(some 95), .p (.bin .lss), [.tmp 94, .tmp 93], none⟩])
  (.seq (.cond (.tmp 95) .skip
  (.exit 4))
  (.seq (.block 5 (.seq (.reg [⟨(some 96), .p (.indexAddr 1), [.tmp 92, .tmp 94], none⟩,
    ⟨(some 97), .r (.load none), [.tmp 96], none⟩,
    ⟨(some 16), .p .move, [.tmp 97], none⟩])
  (.seq (.seq (.reg [⟨(some 98), .p .move, [.tmp 16], none⟩,
    ⟨(some 99), .p (.bin .and), [.tmp 98, .lit (.int .i64 1)], none⟩,
    ⟨(some 100), .p (.bin .eql), [.tmp 99, .lit (.int .i64 0)], none⟩,
    ⟨(some 101), .p .move, [.tmp 100], none⟩,
    ⟨(some 102), .p .move, [.tmp 9], some (101, true)⟩,
    ⟨(some 103), .p .lenSl, [.tmp 102], some (101, true)⟩,
    ⟨(some 104), .p (.bin .gtr), [.tmp 103, .lit (.int .i64 0)], some (101, true)⟩,
    ⟨(some 105), .p .pick, [.tmp 101, .tmp 104, .lit (.bool false)], none⟩])
  (.cond (.tmp 105) (.seq (.reg [⟨(some 107), .p .move, [.tmp 8], none⟩,
    ⟨(some 108), .p .move, [.tmp 9], none⟩,
    ⟨(some 109), .p .move, [.tmp 16], none⟩,
    ⟨(some 110), .p (.bin .shr), [.tmp 109, .lit (.int .u64 1)], none⟩,
    ⟨(some 111), .p .move, [.tmp 9], none⟩,
    ⟨(some 112), .p .lenSl, [.tmp 111], none⟩,
    ⟨(some 113), .p (.bin .rem), [.tmp 110, .tmp 112], none⟩,
    ⟨(some 114), .p .move, [.tmp 9], none⟩,
    ⟨(some 115), .p .lenSl, [.tmp 114], none⟩,
    ⟨(some 116), .p (.bin .add), [.tmp 113, .tmp 115], none⟩,
    ⟨(some 117), .p .move, [.tmp 9], none⟩,
    ⟨(some 118), .p .lenSl, [.tmp 117], none⟩,
    ⟨(some 119), .p (.bin .rem), [.tmp 116, .tmp 118], none⟩,
    ⟨(some 120), .p (.indexAddr 25), [.tmp 108, .tmp 119], none⟩,
    ⟨(some 121), .r (.load (some 25)), [.tmp 120], none⟩,
    ⟨(some 122), .h (.call 12), [.tmp 107, .tmp 121], none⟩,
    ⟨(some 106), .p .move, [.tmp 122], none⟩,
    ⟨(some 123), .p (.extract 0), [.tmp 106], none⟩,
    ⟨(some 124), .p (.extract 1), [.tmp 106], none⟩,
    ⟨(some 125), .p (.extract 2), [.tmp 106], none⟩,
    ⟨(some 18), .a (.alloc [(.int .i64 0), (.int .i64 0), (.int .i64 0), (.int .i64 0), (.int .i64 0), (.int .i64 0), (.int .i64 0), (.int .i64 0), (.int .i64 0), (.str []), (.str []), (.str []), (.int .i64 0), (.int .i64 0), (.str []), .nilslice, (.bool false), (.str []), (.int .i64 0), (.int .u64 0), (.int .u64 0), (.int .i64 0), .nilslice, (.int .i64 0), (.int .i64 0)]), [], none⟩,
    ⟨(some 17), .p .move, [.tmp 123], none⟩,
    ⟨none, .h (.store 25), [.tmp 18, .tmp 124], none⟩,
    ⟨(some 19), .p .move, [.tmp 125], none⟩])
  (.seq (.reg [⟨(some 126), .p .move, [.tmp 14], none⟩,
    ⟨(some 127), .p .move, [.tmp 17], none⟩,
    ⟨(some 128), .h (.append 21 false), [.tmp 126, .tmp 127], none⟩,
    ⟨(some 14), .p .move, [.tmp 128], none⟩])
  (.reg [⟨(some 129), .p .move, [.tmp 7], none⟩,
    ⟨(some 130), .r (.load (some 25)), [.tmp 18], none⟩,
    ⟨(some 131), .h (.call 12), [.tmp 129, .tmp 130], none⟩])))
  .skip))
  (.seq (.reg [⟨(some 132), .p .move, [.tmp 16], none⟩,
    ⟨(some 133), .p (.bin .and), [.tmp 132, .lit (.int .i64 1)], none⟩,
    ⟨(some 134), .p (.bin .eql), [.tmp 133, .lit (.int .i64 1)], none⟩,
    ⟨(some 135), .p .move, [.tmp 134], none⟩,
    ⟨(some 136), .p .move, [.tmp 10], some (135, true)⟩,
    ⟨(some 137), .p .lenSl, [.tmp 136], some (135, true)⟩,
    ⟨(some 138), .p (.bin .gtr), [.tmp 137, .lit (.int .i64 0)], some (135, true)⟩,
    ⟨(some 139), .p .pick, [.tmp 135, .tmp 138, .lit (.bool false)], none⟩])
  (.cond (.tmp 139) (.seq (.reg [⟨(some 141), .p .move, [.tmp 7], none⟩,
    ⟨(some 142), .p .move, [.tmp 10], none⟩,
    ⟨(some 143), .p .move, [.tmp 16], none⟩,
    ⟨(some 144), .p (.bin .shr), [.tmp 143, .lit (.int .u64 1)], none⟩,
    ⟨(some 145), .p .move, [.tmp 10], none⟩,
    ⟨(some 146), .p .lenSl, [.tmp 145], none⟩,
    ⟨(some 147), .p (.bin .rem), [.tmp 144, .tmp 146], none⟩,
    ⟨(some 148), .p .move, [.tmp 10], none⟩,
    ⟨(some 149), .p .lenSl, [.tmp 148], none⟩,
    ⟨(some 150), .p (.bin .add), [.tmp 147, .tmp 149], none⟩,
    ⟨(some 151), .p .move, [.tmp 10], none⟩,
    ⟨(some 152), .p .lenSl, [.tmp 151], none⟩,
    ⟨(some 153), .p (.bin .rem), [.tmp 150, .tmp 152], none⟩,
    ⟨(some 154), .p (.indexAddr 25), [.tmp 142, .tmp 153], none⟩,
    ⟨(some 155), .r (.load (some 25)), [.tmp 154], none⟩,
    ⟨(some 156), .h (.call 12), [.tmp 141, .tmp 155], none⟩,
    ⟨(some 140), .p .move, [.tmp 156], none⟩,
    ⟨(some 157), .p (.extract 0), [.tmp 140], none⟩,
    ⟨(some 158), .p (.extract 1), [.tmp 140], none⟩,
    ⟨(some 159), .p (.extract 2), [.tmp 140], none⟩,
    ⟨(some 21), .a (.alloc [(.int .i64 0), (.int .i64 0), (.int .i64 0), (.int .i64 0), (.int .i64 0), (.int .i64 0), (.int .i64 0), (.int .i64 0), (.int .i64 0), (.str []), (.str []), (.str []), (.int .i64 0), (.int .i64 0), (.str []), .nilslice, (.bool false), (.str []), (.int .i64 0), (.int .u64 0), (.int .u64 0), (.int .i64 0), .nilslice, (.int .i64 0), (.int .i64 0)]), [], none⟩,
    ⟨(some 20), .p .move, [.tmp 157], none⟩,
    ⟨none, .h (.store 25), [.tmp 21, .tmp 158], none⟩,
    ⟨(some 22), .p .move, [.tmp 159], none⟩])
  (.seq (.reg [⟨(some 160), .p .move, [.tmp 13], none⟩,
    ⟨(some 161), .p .move, [.tmp 20], none⟩,
    ⟨(some 162), .h (.append 21 false), [.tmp 160, .tmp 161], none⟩,
    ⟨(some 13), .p .move, [.tmp 162], none⟩])
  (.reg [⟨(some 163), .p .move, [.tmp 8], none⟩,
    ⟨(some 164), .r (.load (some 25)), [.tmp 21], none⟩,
    ⟨(some 165), .h (.call 12), [.tmp 163, .tmp 164], none⟩])))
  .skip)))))
  (.reg [⟨(some 166), .p (.bin .add), [.tmp 94, .lit (.int .i64 1)], none⟩,
    ⟨(some 94), .p .move, [.tmp 166], none⟩])))))))
  (.seq (.seq (.reg [⟨(some 23), .p .move, [.lit (.int .i64 0)], none⟩])
  (.block 6 (.loop [0, 1, 7, 8, 13, 14, 23] (.seq (.seq (.reg [⟨(some 167), .p .move, [.tmp 23], none⟩,
    ⟨(some 168), .p (.bin .lss), [.tmp 167, .lit (.int .i64 12)], none⟩])
  (.cond (.tmp 168) .skip
  (.exit 6)))
  (.seq (.block 7 (.seq (.seq (.reg [⟨(some 171), .p .move, [.tmp 7], none⟩,
    ⟨(some 172), .h (.call 19), [.tmp 171], none⟩,
    ⟨(some 173), .p .lenSl, [.tmp 172], none⟩,
    ⟨(some 174), .p .move, [.lit (.int .i64 0)], none⟩])
  (.block 8 (.loop [0, 1, 7, 8, 13, 14, 23, 172, 173, 174] (.seq (.reg [⟨(some 175), .p (.bin .lss), [.tmp 174, .tmp 173], none⟩])
  (.seq (.cond (.tmp 175) .skip
  (.exit 8))
  (.seq (.block 9 (.seq (.reg [⟨(some 176), .p (.indexAddr 25), [.tmp 172, .tmp 174], none⟩,
    ⟨(some 177), .r (.load (some 25)), [.tmp 176], none⟩,
    ⟨(some 25), .a (.alloc [(.int .i64 0), (.int .i64 0), (.int .i64 0), (.int .i64 0), (.int .i64 0), (.int .i64 0), (.int .i64 0), (.int .i64 0), (.int .i64 0), (.str []), (.str []), (.str []), (.int .i64 0), (.int .i64 0), (.str []), .nilslice, (.bool false), (.str []), (.int .i64 0), (.int .u64 0), (.int .u64 0), (.int .i64 0), .nilslice, (.int .i64 0), (.int .i64 0)]), [], none⟩,
    ⟨none, .h (.store 25), [.tmp 25, .tmp 177], none⟩])
  (.seq (.reg [⟨(some 179), .p .move, [.tmp 8], none⟩,
    ⟨(some 180), .r (.load (some 25)), [.tmp 25], none⟩,
    ⟨(some 181), .h (.call 12), [.tmp 179, .tmp 180], none⟩,
    ⟨(some 178), .p .move, [.tmp 181], none⟩,
    ⟨(some 182), .p (.extract 0), [.tmp 178], none⟩,
    ⟨(some 183), .p (.extract 1), [.tmp 178], none⟩,
    ⟨(some 184), .p (.extract 2), [.tmp 178], none⟩,
    ⟨(some 27), .a (.alloc [(.int .i64 0), (.int .i64 0), (.int .i64 0), (.int .i64 0), (.int .i64 0), (.int .i64 0), (.int .i64 0), (.int .i64 0), (.int .i64 0), (.str []), (.str []), (.str []), (.int .i64 0), (.int .i64 0), (.str []), .nilslice, (.bool false), (.str []), (.int .i64 0), (.int .u64 0), (.int .u64 0), (.int .i64 0), .nilslice, (.int .i64 0), (.int .i64 0)]), [], none⟩,
    ⟨(some 26), .p .move, [.tmp 182], none⟩,
    ⟨none, .h (.store 25), [.tmp 27, .tmp 183], none⟩,
    ⟨(some 28), .p .move, [.tmp 184], none⟩])
  (.seq (.reg [⟨(some 185), .p .move, [.tmp 14], none⟩,
    ⟨(some 186), .p .move, [.tmp 26], none⟩,
    ⟨(some 187), .h (.append 21 false), [.tmp 185, .tmp 186], none⟩,
    ⟨(some 14), .p .move, [.tmp 187], none⟩])
  (.reg [⟨(some 188), .p .move, [.tmp 7], none⟩,
    ⟨(some 189), .r (.load (some 25)), [.tmp 27], none⟩,
    ⟨(some 190), .h (.call 12), [.tmp 188, .tmp 189], none⟩])))))
  (.reg [⟨(some 191), .p (.bin .add), [.tmp 174, .lit (.int .i64 1)], none⟩,
    ⟨(some 174), .p .move, [.tmp 191], none⟩])))))))
  (.seq (.reg [⟨(some 192), .p .move, [.tmp 8], none⟩,
    ⟨(some 193), .h (.call 19), [.tmp 192], none⟩,
    ⟨(some 194), .p .lenSl, [.tmp 193], none⟩,
    ⟨(some 195), .p .move, [.lit (.int .i64 0)], none⟩])
  (.block 10 (.loop [0, 1, 7, 8, 13, 14, 23, 193, 194, 195] (.seq (.reg [⟨(some 196), .p (.bin .lss), [.tmp 195, .tmp 194], none⟩])
  (.seq (.cond (.tmp 196) .skip
  (.exit 10))
  (.seq (.block 11 (.seq (.reg [⟨(some 197), .p (.indexAddr 25), [.tmp 193, .tmp 195], none⟩,
    ⟨(some 198), .r (.load (some 25)), [.tmp 197], none⟩,
    ⟨(some 30), .a (.alloc [(.int .i64 0), (.int .i64 0), (.int .i64 0), (.int .i64 0), (.int .i64 0), (.int .i64 0), (.int .i64 0), (.int .i64 0), (.int .i64 0), (.str []), (.str []), (.str []), (.int .i64 0), (.int .i64 0), (.str []), .nilslice, (.bool false), (.str []), (.int .i64 0), (.int .u64 0), (.int .u64 0), (.int .i64 0), .nilslice, (.int .i64 0), (.int .i64 0)]), [], none⟩,
    ⟨none, .h (.store 25), [.tmp 30, .tmp 198], none⟩])
  (.seq (.reg [⟨(some 200), .p .move, [.tmp 7], none⟩,
    ⟨(some 201), .r (.load (some 25)), [.tmp 30], none⟩,
    ⟨(some 202), .h (.call 12), [.tmp 200, .tmp 201], none⟩,
    ⟨(some 199), .p .move, [.tmp 202], none⟩,
    ⟨(some 203), .p (.extract 0), [.tmp 199], none⟩,
    ⟨(some 204), .p (.extract 1), [.tmp 199], none⟩,
    ⟨(some 205), .p (.extract 2), [.tmp 199], none⟩,
    ⟨(some 32), .a (.alloc [(.int .i64 0), (.int .i64 0), (.int .i64 0), (.int .i64 0), (.int .i64 0), (.int .i64 0), (.int .i64 0), (.int .i64 0), (.int .i64 0), (.str []), (.str []), (.str []), (.int .i64 0), (.int .i64 0), (.str []), .nilslice, (.bool false), (.str []), (.int .i64 0), (.int .u64 0), (.int .u64 0), (.int .i64 0), .nilslice, (.int .i64 0), (.int .i64 0)]), [], none⟩,
    ⟨(some 31), .p .move, [.tmp 203], none⟩,
    ⟨none, .h (.store 25), [.tmp 32, .tmp 204], none⟩,
    ⟨(some 33), .p .move, [.tmp 205], none⟩])
  (.seq (.reg [⟨(some 206), .p .move, [.tmp 13], none⟩,
    ⟨(some 207), .p .move, [.tmp 31], none⟩,
    ⟨(some 208), .h (.append 21 false), [.tmp 206, .tmp 207], none⟩,
    ⟨(some 13), .p .move, [.tmp 208], none⟩])
  (.reg [⟨(some 209), .p .move, [.tmp 8], none⟩,
    ⟨(some 210), .r (.load (some 25)), [.tmp 32], none⟩,
    ⟨(some 211), .h (.call 12), [.tmp 209, .tmp 210], none⟩])))))
  (.reg [⟨(some 212), .p (.bin .add), [.tmp 195, .lit (.int .i64 1)], none⟩,
    ⟨(some 195), .p .move, [.tmp 212], none⟩])))))))))
  (.reg [⟨(some 169), .p .move, [.tmp 23], none⟩,
    ⟨(some 170), .p (.bin .add), [.tmp 169, .lit (.int .i64 1)], none⟩,
    ⟨(some 23), .p .move, [.tmp 170], none⟩]))))))
  (.seq (.seq (.reg [⟨(some 213), .p .move, [.tmp 14], none⟩,
    ⟨(some 214), .p .lenSl, [.tmp 213], none⟩,
    ⟨(some 215), .p .move, [.tmp 0], none⟩,
    ⟨(some 216), .p (.bin .neq), [.tmp 214, .tmp 215], none⟩,
    ⟨(some 217), .p .move, [.tmp 216], none⟩,
    ⟨(some 218), .p .move, [.tmp 13], some (217, false)⟩,
    ⟨(some 219), .p .lenSl, [.tmp 218], some (217, false)⟩,
    ⟨(some 220), .p .move, [.tmp 1], some (217, false)⟩,
    ⟨(some 221), .p (.bin .neq), [.tmp 219, .tmp 220], some (217, false)⟩,
    ⟨(some 222), .p .pick, [.tmp 217, .lit (.bool true), .tmp 221], none⟩,
    ⟨(some 223), .p .move, [.tmp 222], none⟩,
    ⟨(some 224), .p .move, [.tmp 7], some (223, false)⟩,
    ⟨(some 225), .h (.call 14), [.tmp 224], some (223, false)⟩,
    ⟨(some 226), .p .not, [.tmp 225], some (223, false)⟩,
    ⟨(some 227), .p .pick, [.tmp 223, .lit (.bool true), .tmp 226], none⟩,
    ⟨(some 228), .p .move, [.tmp 227], none⟩,
    ⟨(some 229), .p .move, [.tmp 8], some (228, false)⟩,
    ⟨(some 230), .h (.call 14), [.tmp 229], some (228, false)⟩,
    ⟨(some 231), .p .not, [.tmp 230], some (228, false)⟩,
    ⟨(some 232), .p .pick, [.tmp 228, .lit (.bool true), .tmp 231], none⟩])
  (.cond (.tmp 232) (.seq (.reg [⟨(some 6), .p .move, [.lit (.bool false)], none⟩])
  .ret)
  .skip))
  (.seq (.seq (.reg [⟨(some 233), .p .move, [.tmp 14], none⟩,
    ⟨(some 234), .p .lenSl, [.tmp 233], none⟩,
    ⟨(some 235), .p .move, [.lit (.int .i64 0)], none⟩])
  (.block 12 (.loop [13, 14, 234, 235] (.seq (.reg [⟨(some 236), .p (.bin .lss), [.tmp 235, .tmp 234], none⟩])
  (.seq (.cond (.tmp 236) .skip
  (.exit 12))
  (.seq (.block 13 (.seq (.reg [⟨(some 237), .p .move, [.tmp 235], none⟩,
    ⟨(some 34), .p .move, [.tmp 237], none⟩])
  (.seq (.reg [⟨(some 238), .p .move, [.tmp 14], none⟩,
    ⟨(some 239), .p .move, [.tmp 34], none⟩,
    ⟨(some 240), .p (.indexAddr 21), [.tmp 238, .tmp 239], none⟩,
    ⟨(some 241), .p (.fieldAddr 3), [.tmp 240], none⟩,
    ⟨(some 242), .r (.load none), [.tmp 241], none⟩,
    ⟨(some 243), .p .move, [.tmp 34], none⟩,
    ⟨(some 244), .p (.bin .add), [.tmp 243, .lit (.int .i64 1)], none⟩,
    ⟨(some 245), .p (.bin .neq), [.tmp 242, .tmp 244], none⟩])
  (.cond (.tmp 245) (.seq (.reg [⟨(some 6), .p .move, [.lit (.bool false)], none⟩])
  .ret)
  .skip))))
  (.reg [⟨(some 246), .p (.bin .add), [.tmp 235, .lit (.int .i64 1)], none⟩,
    ⟨(some 235), .p .move, [.tmp 246], none⟩])))))))
  (.seq (.seq (.reg [⟨(some 247), .p .move, [.tmp 13], none⟩,
    ⟨(some 248), .p .lenSl, [.tmp 247], none⟩,
    ⟨(some 249), .p .move, [.lit (.int .i64 0)], none⟩])
  (.block 14 (.loop [13, 248, 249] (.seq (.reg [⟨(some 250), .p (.bin .lss), [.tmp 249, .tmp 248], none⟩])
  (.seq (.cond (.tmp 250) .skip
  (.exit 14))
  (.seq (.block 15 (.seq (.reg [⟨(some 251), .p .move, [.tmp 249], none⟩,
    ⟨(some 35), .p .move, [.tmp 251], none⟩])
  (.seq (.reg [⟨(some 252), .p .move, [.tmp 13], none⟩,
    ⟨(some 253), .p .move, [.tmp 35], none⟩,
    ⟨(some 254), .p (.indexAddr 21), [.tmp 252, .tmp 253], none⟩,
    ⟨(some 255), .p (.fieldAddr 3), [.tmp 254], none⟩,
    ⟨(some 256), .r (.load none), [.tmp 255], none⟩,
    ⟨(some 257), .p .move, [.tmp 35], none⟩,
    ⟨(some 258), .p (.bin .add), [.tmp 257, .lit (.int .i64 1)], none⟩,
    ⟨(some 259), .p (.bin .neq), [.tmp 256, .tmp 258], none⟩])
  (.cond (.tmp 259) (.seq (.reg [⟨(some 6), .p .move, [.lit (.bool false)], none⟩])
  .ret)
  .skip))))
  (.reg [⟨(some 260), .p (.bin .add), [.tmp 249, .lit (.int .i64 1)], none⟩,
    ⟨(some 249), .p .move, [.tmp 260], none⟩])))))))
  (.seq (.reg [⟨(some 6), .p .move, [.lit (.bool true)], none⟩])
  .ret)))))))))))))), [.tmp 6]⟩
theorem c9 : cFunc Go.Proofs.Try.prog false 3 Go.Proofs.Try.f9 = some sf9 := by kernel_rfl
def ss9 : List Sh := [(.int .i64), (.int .i64), (.sl 8 (.int .i64))]
theorem cs9 : shsOf Go.Proofs.Try.prog 12 Go.Proofs.Try.f9.params.toList = some ss9 := by kernel_rfl

/-- rosary/rosarylaw9.alive -/
def sf10 : SFunc := ⟨0, 82, (.seq (.reg [⟨(some 0), .p .move, [.lit (.bool false)], none⟩])
  (.seq (.reg [⟨(some 11), .h (.call 11), [.lit (.int .i64 1), .lit (.int .i64 2)], none⟩,
    ⟨(some 12), .h (.call 11), [.lit (.int .i64 2), .lit (.int .i64 1)], none⟩,
    ⟨(some 1), .p .move, [.tmp 11], none⟩,
    ⟨(some 2), .p .move, [.tmp 12], none⟩])
  (.seq (.seq (.reg [⟨(some 13), .p .move, [.tmp 1], none⟩,
    ⟨(some 14), .p (.eq false .ptr), [.tmp 13, .lit .nilptr], none⟩,
    ⟨(some 15), .p .move, [.tmp 14], none⟩,
    ⟨(some 16), .p .move, [.tmp 2], some (15, false)⟩,
    ⟨(some 17), .p (.eq false .ptr), [.tmp 16, .lit .nilptr], some (15, false)⟩,
    ⟨(some 18), .p .pick, [.tmp 15, .lit (.bool true), .tmp 17], none⟩])
  (.cond (.tmp 18) (.seq (.reg [⟨(some 0), .p .move, [.lit (.bool false)], none⟩])
  .ret)
  .skip))
  (.seq (.reg [⟨(some 19), .p .move, [.tmp 1], none⟩,
    ⟨(some 20), .p (.build [(.int .i64 0), (.int .i64 0), (.int .i64 0), (.int .i64 0), (.int .i64 0), (.str []), (.str []), (.str []), (.int .i64 0), (.int .i64 0), (.str []), .nilslice, (.bool false), (.str []), (.int .i64 0), (.int .u64 0), (.int .u64 0), (.int .i64 0), .nilslice, (.int .i64 0), (.int .i64 0)] [(0, 1)]), [.lit (.int .i64 1)], none⟩,
    ⟨(some 21), .h (.call 15), [.tmp 19, .tmp 20], none⟩,
    ⟨(some 22), .p .move, [.tmp 1], none⟩,
    ⟨(some 23), .p (.build [(.int .i64 0), (.int .i64 0), (.int .i64 0), (.int .i64 0), (.int .i64 0), (.str []), (.str []), (.str []), (.int .i64 0), (.int .i64 0), (.str []), .nilslice, (.bool false), (.str []), (.int .i64 0), (.int .u64 0), (.int .u64 0), (.int .i64 0), .nilslice, (.int .i64 0), (.int .i64 0)] [(0, 1)]), [.lit (.int .i64 2)], none⟩,
    ⟨(some 24), .h (.call 15), [.tmp 22, .tmp 23], none⟩,
    ⟨(some 3), .a (.alloc [(.int .i64 0), (.int .i64 0), (.int .i64 0), (.int .i64 0), (.int .i64 0), (.int .i64 0), (.int .i64 0), (.int .i64 0), (.int .i64 0), (.str []), (.str []), (.str []), (.int .i64 0), (.int .i64 0), (.str []), .nilslice, (.bool false), (.str []), (.int .i64 0), (.int .u64 0), (.int .u64 0), (.int .i64 0), .nilslice, (.int .i64 0), (.int .i64 0)]), [], none⟩,
    ⟨(some 4), .a (.alloc [(.int .i64 0), (.int .i64 0), (.int .i64 0), (.int .i64 0), (.int .i64 0), (.int .i64 0), (.int .i64 0), (.int .i64 0), (.int .i64 0), (.str []), (.str []), (.str []), (.int .i64 0), (.int .i64 0), (.str []), .nilslice, (.bool false), (.str []), (.int .i64 0), (.int .u64 0), (.int .u64 0), (.int .i64 0), .nilslice, (.int .i64 0), (.int .i64 0)]), [], none⟩,
    ⟨none, .h (.store 25), [.tmp 3, .tmp 21], none⟩,
    ⟨none, .h (.store 25), [.tmp 4, .tmp 24], none⟩])
  (.seq (.reg [⟨(some 26), .p .move, [.tmp 2], none⟩,
    ⟨(some 27), .r (.load (some 25)), [.tmp 4], none⟩,
    ⟨(some 28), .h (.call 12), [.tmp 26, .tmp 27], none⟩,
    ⟨(some 25), .p .move, [.tmp 28], none⟩,
    ⟨(some 29), .p (.extract 0), [.tmp 25], none⟩,
    ⟨(some 30), .p (.extract 1), [.tmp 25], none⟩,
    ⟨(some 31), .p (.extract 2), [.tmp 25], none⟩,
    ⟨(some 6), .a (.alloc [(.int .i64 0), (.int .i64 0), (.int .i64 0), (.int .i64 0), (.int .i64 0), (.int .i64 0), (.int .i64 0), (.int .i64 0), (.int .i64 0), (.str []), (.str []), (.str []), (.int .i64 0), (.int .i64 0), (.str []), .nilslice, (.bool false), (.str []), (.int .i64 0), (.int .u64 0), (.int .u64 0), (.int .i64 0), .nilslice, (.int .i64 0), (.int .i64 0)]), [], none⟩,
    ⟨(some 5), .p .move, [.tmp 29], none⟩,
    ⟨none, .h (.store 25), [.tmp 6, .tmp 30], none⟩,
    ⟨(some 7), .p .move, [.tmp 31], none⟩])
  (.seq (.reg [⟨(some 33), .p .move, [.tmp 2], none⟩,
    ⟨(some 34), .r (.load (some 25)), [.tmp 3], none⟩,
    ⟨(some 35), .h (.call 12), [.tmp 33, .tmp 34], none⟩,
    ⟨(some 32), .p .move, [.tmp 35], none⟩,
    ⟨(some 36), .p (.extract 0), [.tmp 32], none⟩,
    ⟨(some 37), .p (.extract 1), [.tmp 32], none⟩,
    ⟨(some 38), .p (.extract 2), [.tmp 32], none⟩,
    ⟨(some 9), .a (.alloc [(.int .i64 0), (.int .i64 0), (.int .i64 0), (.int .i64 0), (.int .i64 0), (.int .i64 0), (.int .i64 0), (.int .i64 0), (.int .i64 0), (.str []), (.str []), (.str []), (.int .i64 0), (.int .i64 0), (.str []), .nilslice, (.bool false), (.str []), (.int .i64 0), (.int .u64 0), (.int .u64 0), (.int .i64 0), .nilslice, (.int .i64 0), (.int .i64 0)]), [], none⟩,
    ⟨(some 8), .p .move, [.tmp 36], none⟩,
    ⟨none, .h (.store 25), [.tmp 9, .tmp 37], none⟩,
    ⟨(some 10), .p .move, [.tmp 38], none⟩])
  (.seq (.reg [⟨(some 39), .p .move, [.tmp 1], none⟩,
    ⟨(some 40), .r (.load (some 25)), [.tmp 9], none⟩,
    ⟨(some 41), .h (.call 12), [.tmp 39, .tmp 40], none⟩])
  (.seq (.reg [⟨(some 42), .p .move, [.tmp 7], none⟩,
    ⟨(some 43), .p .move, [.tmp 42], none⟩,
    ⟨(some 44), .p .move, [.tmp 10], some (43, true)⟩,
    ⟨(some 45), .p .pick, [.tmp 43, .tmp 44, .lit (.bool false)], none⟩,
    ⟨(some 46), .p .move, [.tmp 45], none⟩,
    ⟨(some 47), .p .move, [.tmp 5], some (46, true)⟩,
    ⟨(some 48), .p .lenSl, [.tmp 47], some (46, true)⟩,
    ⟨(some 49), .p (.bin .eql), [.tmp 48, .lit (.int .i64 0)], some (46, true)⟩,
    ⟨(some 50), .p .pick, [.tmp 46, .tmp 49, .lit (.bool false)], none⟩,
    ⟨(some 51), .p .move, [.tmp 50], none⟩,
    ⟨(some 52), .p .move, [.tmp 8], some (51, true)⟩,
    ⟨(some 53), .p .lenSl, [.tmp 52], some (51, true)⟩,
    ⟨(some 54), .p (.bin .eql), [.tmp 53, .lit (.int .i64 2)], some (51, true)⟩,
    ⟨(some 55), .p .pick, [.tmp 51, .tmp 54, .lit (.bool false)], none⟩,
    ⟨(some 56), .p .move, [.tmp 55], none⟩,
    ⟨(some 57), .p .move, [.tmp 8], some (56, true)⟩,
    ⟨(some 58), .p (.indexAddr 21), [.tmp 57, .lit (.int .i64 0)], some (56, true)⟩,
    ⟨(some 59), .p (.fieldAddr 0), [.tmp 58], some (56, true)⟩,
    ⟨(some 60), .r (.load none), [.tmp 59], some (56, true)⟩,
    ⟨(some 61), .p (.bin .eql), [.tmp 60, .lit (.int .i64 1)], some (56, true)⟩,
    ⟨(some 62), .p .pick, [.tmp 56, .tmp 61, .lit (.bool false)], none⟩,
    ⟨(some 63), .p .move, [.tmp 62], none⟩,
    ⟨(some 64), .p (.fieldAddr 3), [.tmp 9], some (63, true)⟩,
    ⟨(some 65), .r (.load none), [.tmp 64], some (63, true)⟩,
    ⟨(some 66), .p (.bin .eql), [.tmp 65, .lit (.int .i64 2)], some (63, true)⟩,
    ⟨(some 67), .p .pick, [.tmp 63, .tmp 66, .lit (.bool false)], none⟩,
    ⟨(some 68), .p .move, [.tmp 67], none⟩,
    ⟨(some 69), .p .move, [.tmp 1], some (68, true)⟩,
    ⟨(some 70), .h (.call 16), [.tmp 69], some (68, true)⟩,
    ⟨(some 71), .p (.bin .eql), [.tmp 70, .lit (.int .i64 0)], some (68, true)⟩,
    ⟨(some 72), .p .pick, [.tmp 68, .tmp 71, .lit (.bool false)], none⟩,
    ⟨(some 73), .p .move, [.tmp 72], none⟩,
    ⟨(some 74), .p .move, [.tmp 1], some (73, true)⟩,
    ⟨(some 75), .h (.call 14), [.tmp 74], some (73, true)⟩,
    ⟨(some 76), .p .pick, [.tmp 73, .tmp 75, .lit (.bool false)], none⟩,
    ⟨(some 77), .p .move, [.tmp 76], none⟩,
    ⟨(some 78), .p .move, [.tmp 2], some (77, true)⟩,
    ⟨(some 79), .h (.call 13), [.tmp 78], some (77, true)⟩,
    ⟨(some 80), .p (.bin .eql), [.tmp 79, .lit (.int .i64 2)], some (77, true)⟩,
    ⟨(some 81), .p .pick, [.tmp 77, .tmp 80, .lit (.bool false)], none⟩,
    ⟨(some 0), .p .move, [.tmp 81], none⟩])
  .ret)))))))), [.tmp 0]⟩
theorem c10 : cFunc Go.Proofs.Try.prog false 0 Go.Proofs.Try.f10 = some sf10 := by kernel_rfl
def ss10 : List Sh := []
theorem cs10 : shsOf Go.Proofs.Try.prog 12 Go.Proofs.Try.f10.params.toList = some ss10 := by kernel_rfl

/-- rosary/link.New -/
def sf11 : SFunc := ⟨2, 10, (.seq (.reg [⟨(some 4), .p .move, [.lit .nilptr], none⟩])
  (.seq (.reg [⟨(some 5), .p .move, [.tmp 0], none⟩,
    ⟨(some 6), .p .move, [.tmp 1], none⟩,
    ⟨(some 7), .a .makeMap, [], none⟩,
    ⟨(some 8), .p (.build [(.int .i64 0), (.int .i64 0), (.int .i64 0), (.int .i64 0), .nilslice, (.int .i64 0), .nilmap] [(0, 1), (1, 1), (6, 1)]), [.tmp 5, .tmp 6, .tmp 7], none⟩,
    ⟨(some 9), .a .box, [.tmp 8], none⟩,
    ⟨(some 4), .p .move, [.tmp 9], none⟩])
  .ret)), [.tmp 4]⟩
theorem c11 : cFunc Go.Proofs.Try.prog false 2 Go.Proofs.Try.f11 = some sf11 := by kernel_rfl

/-- (*rosary/link.Link).Got -/
def sf12 : SFunc := ⟨2, 119, (.seq (.reg [⟨(some 3), .a .box, [.tmp 1], none⟩,
    ⟨(some 4), .p .move, [.lit .nilslice], none⟩,
    ⟨(some 5), .a (.alloc [(.int .i64 0), (.int .i64 0), (.int .i64 0), (.int .i64 0), (.int .i64 0), (.int .i64 0), (.int .i64 0), (.int .i64 0), (.int .i64 0), (.str []), (.str []), (.str []), (.int .i64 0), (.int .i64 0), (.str []), .nilslice, (.bool false), (.str []), (.int .i64 0), (.int .u64 0), (.int .u64 0), (.int .i64 0), .nilslice, (.int .i64 0), (.int .i64 0)]), [], none⟩,
    ⟨(some 6), .p .move, [.lit (.bool false)], none⟩])
  (.scope (.seq (.seq (.reg [⟨(some 12), .p .move, [.tmp 0], none⟩,
    ⟨(some 13), .r (.load (some 25)), [.tmp 3], none⟩,
    ⟨(some 14), .h (.call 25), [.tmp 12, .tmp 13], none⟩,
    ⟨(some 15), .p .not, [.tmp 14], none⟩])
  (.cond (.tmp 15) (.seq (.reg [⟨(some 16), .p (.build [(.int .i64 0), (.int .i64 0), (.int .i64 0), (.int .i64 0), (.int .i64 0), (.int .i64 0), (.int .i64 0), (.int .i64 0), (.int .i64 0), (.str []), (.str []), (.str []), (.int .i64 0), (.int .i64 0), (.str []), .nilslice, (.bool false), (.str []), (.int .i64 0), (.int .u64 0), (.int .u64 0), (.int .i64 0), .nilslice, (.int .i64 0), (.int .i64 0)] []), [], none⟩,
    ⟨(some 4), .p .move, [.lit .nilslice], none⟩,
    ⟨none, .h (.store 25), [.tmp 5, .tmp 16], none⟩,
    ⟨(some 6), .p .move, [.lit (.bool false)], none⟩])
  .ret)
  .skip))
  (.seq (.reg [⟨(some 17), .p .move, [.tmp 0], none⟩,
    ⟨(some 18), .p .move, [.tmp 0], none⟩,
    ⟨(some 19), .p .nilCheck, [.tmp 18], none⟩,
    ⟨(some 20), .p (.fieldAddr 4), [.tmp 19], none⟩,
    ⟨(some 21), .r (.load none), [.tmp 20], none⟩,
    ⟨(some 22), .p (.mkfn 27), [.tmp 3], none⟩,
    ⟨(some 23), .h (.call 26), [.tmp 21, .tmp 22], none⟩,
    ⟨(some 24), .p .nilCheck, [.tmp 17], none⟩,
    ⟨(some 25), .p (.fieldAddr 4), [.tmp 24], none⟩,
    ⟨none, .h (.store 1), [.tmp 25, .tmp 23], none⟩])
  (.seq (.seq (.reg [⟨(some 26), .p (.fieldAddr 2), [.tmp 3], none⟩,
    ⟨(some 27), .r (.load none), [.tmp 26], none⟩,
    ⟨(some 28), .p (.bin .eql), [.tmp 27, .lit (.int .i64 0)], none⟩])
  (.cond (.tmp 28) (.seq (.reg [⟨(some 29), .p (.build [(.int .i64 0), (.int .i64 0), (.int .i64 0), (.int .i64 0), (.int .i64 0), (.int .i64 0), (.int .i64 0), (.int .i64 0), (.int .i64 0), (.str []), (.str []), (.str []), (.int .i64 0), (.int .i64 0), (.str []), .nilslice, (.bool false), (.str []), (.int .i64 0), (.int .u64 0), (.int .u64 0), (.int .i64 0), .nilslice, (.int .i64 0), (.int .i64 0)] []), [], none⟩,
    ⟨(some 4), .p .move, [.lit .nilslice], none⟩,
    ⟨none, .h (.store 25), [.tmp 5, .tmp 29], none⟩,
    ⟨(some 6), .p .move, [.lit (.bool true)], none⟩])
  .ret)
  .skip))
  (.seq (.seq (.dreg [⟨[⟨(some 31), .p .move, [.tmp 0], none⟩,
    ⟨(some 32), .p .nilCheck, [.tmp 31], none⟩,
    ⟨(some 33), .p (.fieldAddr 6), [.tmp 32], none⟩,
    ⟨(some 34), .r (.load none), [.tmp 33], none⟩,
    ⟨(some 35), .p (.fieldAddr 2), [.tmp 3], none⟩,
    ⟨(some 36), .r (.load none), [.tmp 35], none⟩,
    ⟨(some 37), .r (.lookup .int (.agg [(.int .i64 0), (.int .i64 0), (.int .i64 0), (.int .i64 0), (.int .i64 0), (.str []), (.str []), (.str []), (.int .i64 0), (.int .i64 0), (.str []), .nilslice, (.bool false), (.str []), (.int .i64 0), (.int .u64 0), (.int .u64 0), (.int .i64 0), .nilslice, (.int .i64 0), (.int .i64 0)]) true), [.tmp 34, .tmp 36], none⟩,
    ⟨(some 30), .p .move, [.tmp 37], none⟩,
    ⟨(some 38), .p (.extract 0), [.tmp 30], none⟩,
    ⟨(some 39), .p (.extract 1), [.tmp 30], none⟩,
    ⟨(some 7), .a (.alloc [(.int .i64 0), (.int .i64 0), (.int .i64 0), (.int .i64 0), (.int .i64 0), (.str []), (.str []), (.str []), (.int .i64 0), (.int .i64 0), (.str []), .nilslice, (.bool false), (.str []), (.int .i64 0), (.int .u64 0), (.int .u64 0), (.int .i64 0), .nilslice, (.int .i64 0), (.int .i64 0)]), [], none⟩], [], some ⟨none, .h (.store 21), [.tmp 7, .tmp 38], none⟩⟩,
   ⟨[⟨(some 8), .p .move, [.tmp 39], none⟩], [], none⟩])
  (.seq (.dreg [⟨[⟨(some 40), .p .move, [.tmp 8], none⟩,
    ⟨(some 41), .p .not, [.tmp 40], none⟩,
    ⟨(some 42), .p .move, [.tmp 41], none⟩,
    ⟨(some 43), .p (.fieldAddr 2), [.tmp 3], some (42, true)⟩,
    ⟨(some 44), .r (.load none), [.tmp 43], some (42, true)⟩,
    ⟨(some 45), .p .move, [.tmp 0], some (42, true)⟩,
    ⟨(some 46), .p .nilCheck, [.tmp 45], some (42, true)⟩,
    ⟨(some 47), .p (.fieldAddr 5), [.tmp 46], some (42, true)⟩,
    ⟨(some 48), .r (.load none), [.tmp 47], some (42, true)⟩,
    ⟨(some 49), .p (.bin .gtr), [.tmp 44, .tmp 48], some (42, true)⟩,
    ⟨(some 50), .p .pick, [.tmp 42, .tmp 49, .lit (.bool false)], none⟩,
    ⟨(some 51), .p .move, [.tmp 50], none⟩,
    ⟨(some 52), .p (.fieldAddr 2), [.tmp 3], some (51, true)⟩,
    ⟨(some 53), .r (.load none), [.tmp 52], some (51, true)⟩,
    ⟨(some 54), .p .move, [.tmp 0], some (51, true)⟩,
    ⟨(some 55), .p .nilCheck, [.tmp 54], some (51, true)⟩,
    ⟨(some 56), .p (.fieldAddr 5), [.tmp 55], some (51, true)⟩,
    ⟨(some 57), .r (.load none), [.tmp 56], some (51, true)⟩,
    ⟨(some 58), .p (.bin .sub), [.tmp 53, .tmp 57], some (51, true)⟩,
    ⟨(some 59), .p (.bin .leq), [.tmp 58, .lit (.int .i64 64)], some (51, true)⟩,
    ⟨(some 60), .p .pick, [.tmp 51, .tmp 59, .lit (.bool false)], none⟩], [], none⟩])
  (.cond (.tmp 60) (.dreg [⟨[⟨(some 61), .p .move, [.tmp 0], none⟩,
    ⟨(some 62), .p .nilCheck, [.tmp 61], none⟩,
    ⟨(some 63), .p (.fieldAddr 6), [.tmp 62], none⟩,
    ⟨(some 64), .r (.load none), [.tmp 63], none⟩,
    ⟨(some 65), .p (.fieldAddr 2), [.tmp 3], none⟩,
    ⟨(some 66), .r (.load none), [.tmp 65], none⟩,
    ⟨(some 67), .p (.fieldAddr 4), [.tmp 3], none⟩,
    ⟨(some 68), .r (.load (some 21)), [.tmp 67], none⟩], [], some ⟨(some 69), .h (.call 28), [.tmp 68], none⟩⟩,
   ⟨[], [⟨(some 64), .r (.load none), [.tmp 63], none⟩,
    ⟨(some 66), .r (.load none), [.tmp 65], none⟩], some ⟨none, .h (.mapUpdate .int), [.tmp 64, .tmp 66, .tmp 69], none⟩⟩,
   ⟨[], [], none⟩])
  .skip)))
  (.seq (.reg [⟨(some 9), .p .move, [.lit .nilslice], none⟩])
  (.seq .skip
  (.seq (.block 0 (.loop [0, 5, 9] (.block 1 (.seq (.dreg [⟨[⟨(some 71), .p .move, [.tmp 0], none⟩,
    ⟨(some 72), .p .nilCheck, [.tmp 71], none⟩,
    ⟨(some 73), .p (.fieldAddr 6), [.tmp 72], none⟩,
    ⟨(some 74), .r (.load none), [.tmp 73], none⟩,
    ⟨(some 75), .p .move, [.tmp 0], none⟩,
    ⟨(some 76), .p .nilCheck, [.tmp 75], none⟩,
    ⟨(some 77), .p (.fieldAddr 5), [.tmp 76], none⟩,
    ⟨(some 78), .r (.load none), [.tmp 77], none⟩,
    ⟨(some 79), .p (.bin .add), [.tmp 78, .lit (.int .i64 1)], none⟩,
    ⟨(some 80), .r (.lookup .int (.agg [(.int .i64 0), (.int .i64 0), (.int .i64 0), (.int .i64 0), (.int .i64 0), (.str []), (.str []), (.str []), (.int .i64 0), (.int .i64 0), (.str []), .nilslice, (.bool false), (.str []), (.int .i64 0), (.int .u64 0), (.int .u64 0), (.int .i64 0), .nilslice, (.int .i64 0), (.int .i64 0)]) true), [.tmp 74, .tmp 79], none⟩,
    ⟨(some 70), .p .move, [.tmp 80], none⟩,
    ⟨(some 81), .p (.extract 0), [.tmp 70], none⟩,
    ⟨(some 82), .p (.extract 1), [.tmp 70], none⟩,
    ⟨(some 10), .a (.alloc [(.int .i64 0), (.int .i64 0), (.int .i64 0), (.int .i64 0), (.int .i64 0), (.str []), (.str []), (.str []), (.int .i64 0), (.int .i64 0), (.str []), .nilslice, (.bool false), (.str []), (.int .i64 0), (.int .u64 0), (.int .u64 0), (.int .i64 0), .nilslice, (.int .i64 0), (.int .i64 0)]), [], none⟩], [], some ⟨none, .h (.store 21), [.tmp 10, .tmp 81], none⟩⟩,
   ⟨[⟨(some 11), .p .move, [.tmp 82], none⟩], [], none⟩])
  (.seq (.seq (.reg [⟨(some 83), .p .move, [.tmp 11], none⟩,
    ⟨(some 84), .p .not, [.tmp 83], none⟩])
  (.cond (.tmp 84) (.exit 0)
  .skip))
  (.seq (.dreg [⟨[⟨(some 85), .p .move, [.tmp 0], none⟩,
    ⟨(some 86), .p .nilCheck, [.tmp 85], none⟩,
    ⟨(some 87), .p (.fieldAddr 6), [.tmp 86], none⟩,
    ⟨(some 88), .r (.load none), [.tmp 87], none⟩,
    ⟨(some 89), .p .move, [.tmp 0], none⟩,
    ⟨(some 90), .p .nilCheck, [.tmp 89], none⟩,
    ⟨(some 91), .p (.fieldAddr 5), [.tmp 90], none⟩,
    ⟨(some 92), .r (.load none), [.tmp 91], none⟩,
    ⟨(some 93), .p (.bin .add), [.tmp 92, .lit (.int .i64 1)], none⟩], [], some ⟨none, .h (.delete .int), [.tmp 88, .tmp 93], none⟩⟩,
   ⟨[], [], none⟩])
  (.seq (.reg [⟨(some 94), .p .move, [.tmp 0], none⟩,
    ⟨(some 95), .p .nilCheck, [.tmp 94], none⟩,
    ⟨(some 96), .p (.fieldAddr 5), [.tmp 95], none⟩,
    ⟨(some 97), .r (.load none), [.tmp 96], none⟩,
    ⟨(some 98), .p (.bin .add), [.tmp 97, .lit (.int .i64 1)], none⟩,
    ⟨(some 99), .p .nilCheck, [.tmp 94], none⟩,
    ⟨(some 100), .p (.fieldAddr 5), [.tmp 99], none⟩,
    ⟨none, .h (.store 1), [.tmp 100, .tmp 98], none⟩])
  (.reg [⟨(some 101), .p .move, [.tmp 9], none⟩,
    ⟨(some 102), .r (.load (some 21)), [.tmp 10], none⟩,
    ⟨(some 103), .a (.buildSlice 21 1 [(.int .i64 0), (.int .i64 0), (.int .i64 0), (.int .i64 0), (.int .i64 0), (.str []), (.str []), (.str []), (.int .i64 0), (.int .i64 0), (.str []), .nilslice, (.bool false), (.str []), (.int .i64 0), (.int .u64 0), (.int .u64 0), (.int .i64 0), .nilslice, (.int .i64 0), (.int .i64 0)] [0]), [.tmp 102], none⟩,
    ⟨(some 104), .h (.append 21 false), [.tmp 101, .tmp 103], none⟩,
    ⟨(some 9), .p .move, [.tmp 104], none⟩]))))))))
  (.seq (.dreg [⟨[⟨(some 105), .p .move, [.tmp 9], none⟩,
    ⟨(some 106), .p .move, [.tmp 0], none⟩,
    ⟨(some 107), .p .nilCheck, [.tmp 106], none⟩,
    ⟨(some 108), .p (.fieldAddr 0), [.tmp 107], none⟩,
    ⟨(some 109), .r (.load none), [.tmp 108], none⟩,
    ⟨(some 110), .p .move, [.tmp 0], none⟩,
    ⟨(some 111), .p .nilCheck, [.tmp 110], none⟩,
    ⟨(some 112), .p (.fieldAddr 1), [.tmp 111], none⟩,
    ⟨(some 113), .r (.load none), [.tmp 112], none⟩,
    ⟨(some 114), .p .move, [.tmp 0], none⟩,
    ⟨(some 115), .p .nilCheck, [.tmp 114], none⟩,
    ⟨(some 116), .p (.fieldAddr 5), [.tmp 115], none⟩,
    ⟨(some 117), .r (.load none), [.tmp 116], none⟩,
    ⟨(some 118), .p (.build [(.int .i64 0), (.int .i64 0), (.int .i64 0), (.int .i64 0), (.int .i64 0), (.int .i64 0), (.int .i64 0), (.int .i64 0), (.int .i64 0), (.str []), (.str []), (.str []), (.int .i64 0), (.int .i64 0), (.str []), .nilslice, (.bool false), (.str []), (.int .i64 0), (.int .u64 0), (.int .u64 0), (.int .i64 0), .nilslice, (.int .i64 0), (.int .i64 0)] [(0, 1), (1, 1), (3, 1)]), [.tmp 109, .tmp 113, .tmp 117], none⟩,
    ⟨(some 4), .p .move, [.tmp 105], none⟩], [], some ⟨none, .h (.store 25), [.tmp 5, .tmp 118], none⟩⟩,
   ⟨[⟨(some 6), .p .move, [.lit (.bool true)], none⟩], [], none⟩])
  .ret)))))))))), [.tmp 4, .cell 5 (some 25), .tmp 6]⟩
theorem c12 : cFunc Go.Proofs.Try.prog false 2 Go.Proofs.Try.f12 = some sf12 := by kernel_rfl

/-- (*rosary/link.Link).Came -/
def sf13 : SFunc := ⟨1, 9, (.seq (.reg [⟨(some 2), .p .move, [.lit (.int .i64 0)], none⟩])
  (.seq (.seq (.reg [⟨(some 3), .p .move, [.tmp 0], none⟩,
    ⟨(some 4), .p (.eq false .ptr), [.tmp 3, .lit .nilptr], none⟩])
  (.cond (.tmp 4) (.seq (.reg [⟨(some 2), .p .move, [.lit (.int .i64 0)], none⟩])
  .ret)
  .skip))
  (.seq (.reg [⟨(some 5), .p .move, [.tmp 0], none⟩,
    ⟨(some 6), .p .nilCheck, [.tmp 5], none⟩,
    ⟨(some 7), .p (.fieldAddr 5), [.tmp 6], none⟩,
    ⟨(some 8), .r (.load none), [.tmp 7], none⟩,
    ⟨(some 2), .p .move, [.tmp 8], none⟩])
  .ret))), [.tmp 2]⟩
theorem c13 : cFunc Go.Proofs.Try.prog false 1 Go.Proofs.Try.f13 = some sf13 := by kernel_rfl

/-- (*rosary/link.Link).Rest -/
def sf14 : SFunc := ⟨1, 21, (.seq (.reg [⟨(some 2), .p .move, [.lit (.bool false)], none⟩])
  (.seq (.reg [⟨(some 3), .p .move, [.tmp 0], none⟩,
    ⟨(some 4), .p (.eq false .ptr), [.tmp 3, .lit .nilptr], none⟩,
    ⟨(some 5), .p .move, [.tmp 4], none⟩,
    ⟨(some 6), .p .move, [.tmp 0], some (5, false)⟩,
    ⟨(some 7), .p .nilCheck, [.tmp 6], some (5, false)⟩,
    ⟨(some 8), .p (.fieldAddr 4), [.tmp 7], some (5, false)⟩,
    ⟨(some 9), .r (.load none), [.tmp 8], some (5, false)⟩,
    ⟨(some 10), .p .lenSl, [.tmp 9], some (5, false)⟩,
    ⟨(some 11), .p (.bin .eql), [.tmp 10, .lit (.int .i64 0)], some (5, false)⟩,
    ⟨(some 12), .p .move, [.tmp 11], some (5, false)⟩,
    ⟨(some 13), .p .move, [.tmp 0], some (12, true)⟩,
    ⟨(some 14), .p .nilCheck, [.tmp 13], some (12, true)⟩,
    ⟨(some 15), .p (.fieldAddr 6), [.tmp 14], some (12, true)⟩,
    ⟨(some 16), .r (.load none), [.tmp 15], some (12, true)⟩,
    ⟨(some 17), .r .lenMap, [.tmp 16], some (12, true)⟩,
    ⟨(some 18), .p (.bin .eql), [.tmp 17, .lit (.int .i64 0)], some (12, true)⟩,
    ⟨(some 19), .p .pick, [.tmp 12, .tmp 18, .lit (.bool false)], some (5, false)⟩,
    ⟨(some 20), .p .pick, [.tmp 5, .lit (.bool true), .tmp 19], none⟩,
    ⟨(some 2), .p .move, [.tmp 20], none⟩])
  .ret)), [.tmp 2]⟩
theorem c14 : cFunc Go.Proofs.Try.prog false 1 Go.Proofs.Try.f14 = some sf14 := by kernel_rfl

/-- (*rosary/link.Link).Send -/
def sf15 : SFunc := ⟨2, 40, (.seq (.reg [⟨(some 3), .a .box, [.tmp 1], none⟩,
    ⟨(some 4), .a (.alloc [(.int .i64 0), (.int .i64 0), (.int .i64 0), (.int .i64 0), (.int .i64 0), (.int .i64 0), (.int .i64 0), (.int .i64 0), (.int .i64 0), (.str []), (.str []), (.str []), (.int .i64 0), (.int .i64 0), (.str []), .nilslice, (.bool false), (.str []), (.int .i64 0), (.int .u64 0), (.int .u64 0), (.int .i64 0), .nilslice, (.int .i64 0), (.int .i64 0)]), [], none⟩])
  (.seq (.seq (.reg [⟨(some 6), .p .move, [.tmp 0], none⟩,
    ⟨(some 7), .p (.eq false .ptr), [.tmp 6, .lit .nilptr], none⟩])
  (.cond (.tmp 7) (.seq (.reg [⟨(some 8), .p (.build [(.int .i64 0), (.int .i64 0), (.int .i64 0), (.int .i64 0), (.int .i64 0), (.int .i64 0), (.int .i64 0), (.int .i64 0), (.int .i64 0), (.str []), (.str []), (.str []), (.int .i64 0), (.int .i64 0), (.str []), .nilslice, (.bool false), (.str []), (.int .i64 0), (.int .u64 0), (.int .u64 0), (.int .i64 0), .nilslice, (.int .i64 0), (.int .i64 0)] []), [], none⟩,
    ⟨none, .h (.store 25), [.tmp 4, .tmp 8], none⟩])
  .ret)
  .skip))
  (.seq (.reg [⟨(some 9), .p .move, [.tmp 0], none⟩,
    ⟨(some 10), .p .nilCheck, [.tmp 9], none⟩,
    ⟨(some 11), .p (.fieldAddr 3), [.tmp 10], none⟩,
    ⟨(some 12), .r (.load none), [.tmp 11], none⟩,
    ⟨(some 13), .p (.bin .add), [.tmp 12, .lit (.int .i64 1)], none⟩,
    ⟨(some 14), .p .nilCheck, [.tmp 9], none⟩,
    ⟨(some 15), .p (.fieldAddr 3), [.tmp 14], none⟩,
    ⟨none, .h (.store 1), [.tmp 15, .tmp 13], none⟩])
  (.seq (.dreg [⟨[⟨(some 16), .p .move, [.tmp 0], none⟩,
    ⟨(some 17), .p .nilCheck, [.tmp 16], none⟩,
    ⟨(some 18), .p (.fieldAddr 3), [.tmp 17], none⟩,
    ⟨(some 19), .r (.load none), [.tmp 18], none⟩,
    ⟨(some 20), .r (.load (some 21)), [.tmp 3], none⟩,
    ⟨(some 22), .p .move, [.tmp 0], none⟩,
    ⟨(some 23), .p .nilCheck, [.tmp 22], none⟩,
    ⟨(some 24), .p (.fieldAddr 2), [.tmp 23], none⟩,
    ⟨(some 25), .r (.load none), [.tmp 24], none⟩,
    ⟨(some 5), .a (.alloc [(.int .i64 0), (.int .i64 0), (.int .i64 0), (.int .i64 0), (.int .i64 0), (.int .i64 0), (.str []), (.str []), (.str []), (.int .i64 0), (.int .i64 0), (.str []), .nilslice, (.bool false), (.str []), (.int .i64 0), (.int .u64 0), (.int .u64 0), (.int .i64 0), .nilslice, (.int .i64 0), (.int .i64 0), (.int .i64 0)]), [], none⟩], [], some ⟨(some 21), .h (.call 28), [.tmp 20], none⟩⟩,
   ⟨[⟨(some 26), .p (.build [(.int .i64 0), (.int .i64 0), (.int .i64 0), (.int .i64 0), (.int .i64 0), (.int .i64 0), (.str []), (.str []), (.str []), (.int .i64 0), (.int .i64 0), (.str []), .nilslice, (.bool false), (.str []), (.int .i64 0), (.int .u64 0), (.int .u64 0), (.int .i64 0), .nilslice, (.int .i64 0), (.int .i64 0), (.int .i64 0)] [(0, 1), (1, 21), (22, 1)]), [.tmp 19, .tmp 21, .tmp 25], none⟩], [⟨(some 19), .r (.load none), [.tmp 18], none⟩,
    ⟨(some 25), .r (.load none), [.tmp 24], none⟩], some ⟨none, .h (.store 23), [.tmp 5, .tmp 26], none⟩⟩,
   ⟨[], [], none⟩])
  (.seq (.dreg [⟨[⟨(some 27), .p .move, [.tmp 0], none⟩,
    ⟨(some 28), .p .move, [.tmp 0], none⟩,
    ⟨(some 29), .p .nilCheck, [.tmp 28], none⟩,
    ⟨(some 30), .p (.fieldAddr 4), [.tmp 29], none⟩,
    ⟨(some 31), .r (.load none), [.tmp 30], none⟩,
    ⟨(some 32), .r (.load (some 23)), [.tmp 5], none⟩,
    ⟨(some 33), .a (.buildSlice 23 1 [(.int .i64 0), (.int .i64 0), (.int .i64 0), (.int .i64 0), (.int .i64 0), (.int .i64 0), (.str []), (.str []), (.str []), (.int .i64 0), (.int .i64 0), (.str []), .nilslice, (.bool false), (.str []), (.int .i64 0), (.int .u64 0), (.int .u64 0), (.int .i64 0), .nilslice, (.int .i64 0), (.int .i64 0), (.int .i64 0)] [0]), [.tmp 32], none⟩], [], some ⟨(some 34), .h (.append 23 false), [.tmp 31, .tmp 33], none⟩⟩,
   ⟨[⟨(some 35), .p .nilCheck, [.tmp 27], none⟩,
    ⟨(some 36), .p (.fieldAddr 4), [.tmp 35], none⟩], [], some ⟨none, .h (.store 1), [.tmp 36, .tmp 34], none⟩⟩,
   ⟨[], [], none⟩])
  (.seq (.reg [⟨(some 37), .p .move, [.tmp 0], none⟩,
    ⟨(some 38), .r (.load (some 23)), [.tmp 5], none⟩,
    ⟨(some 39), .h (.call 29), [.tmp 37, .tmp 38], none⟩,
    ⟨none, .h (.store 25), [.tmp 4, .tmp 39], none⟩])
  .ret)))))), [.cell 4 (some 25)]⟩
theorem c15 : cFunc Go.Proofs.Try.prog false 2 Go.Proofs.Try.f15 = some sf15 := by kernel_rfl

/-- (*rosary/link.Link).Waits -/
def sf16 : SFunc := ⟨1, 10, (.seq (.reg [⟨(some 2), .p .move, [.lit (.int .i64 0)], none⟩])
  (.seq (.seq (.reg [⟨(some 3), .p .move, [.tmp 0], none⟩,
    ⟨(some 4), .p (.eq false .ptr), [.tmp 3, .lit .nilptr], none⟩])
  (.cond (.tmp 4) (.seq (.reg [⟨(some 2), .p .move, [.lit (.int .i64 0)], none⟩])
  .ret)
  .skip))
  (.seq (.reg [⟨(some 5), .p .move, [.tmp 0], none⟩,
    ⟨(some 6), .p .nilCheck, [.tmp 5], none⟩,
    ⟨(some 7), .p (.fieldAddr 4), [.tmp 6], none⟩,
    ⟨(some 8), .r (.load none), [.tmp 7], none⟩,
    ⟨(some 9), .p .lenSl, [.tmp 8], none⟩,
    ⟨(some 2), .p .move, [.tmp 9], none⟩])
  .ret))), [.tmp 2]⟩
theorem c16 : cFunc Go.Proofs.Try.prog false 1 Go.Proofs.Try.f16 = some sf16 := by kernel_rfl

/-- rosary/rosarybook.SamePacket -/
def sf17 : SFunc := ⟨2, 38, (.seq (.reg [⟨(some 2), .a .box, [.tmp 0], none⟩,
    ⟨(some 3), .a .box, [.tmp 1], none⟩,
    ⟨(some 4), .p .move, [.lit (.bool false)], none⟩])
  (.seq (.reg [⟨(some 5), .p (.fieldAddr 0), [.tmp 2], none⟩,
    ⟨(some 6), .r (.load none), [.tmp 5], none⟩,
    ⟨(some 7), .p (.fieldAddr 0), [.tmp 3], none⟩,
    ⟨(some 8), .r (.load none), [.tmp 7], none⟩,
    ⟨(some 9), .p (.bin .eql), [.tmp 6, .tmp 8], none⟩,
    ⟨(some 10), .p .move, [.tmp 9], none⟩,
    ⟨(some 11), .p (.fieldAddr 1), [.tmp 2], some (10, true)⟩,
    ⟨(some 12), .r (.load none), [.tmp 11], some (10, true)⟩,
    ⟨(some 13), .p (.fieldAddr 1), [.tmp 3], some (10, true)⟩,
    ⟨(some 14), .r (.load none), [.tmp 13], some (10, true)⟩,
    ⟨(some 15), .p (.bin .eql), [.tmp 12, .tmp 14], some (10, true)⟩,
    ⟨(some 16), .p .pick, [.tmp 10, .tmp 15, .lit (.bool false)], none⟩,
    ⟨(some 17), .p .move, [.tmp 16], none⟩,
    ⟨(some 18), .p (.fieldAddr 2), [.tmp 2], some (17, true)⟩,
    ⟨(some 19), .r (.load none), [.tmp 18], some (17, true)⟩,
    ⟨(some 20), .p (.fieldAddr 2), [.tmp 3], some (17, true)⟩,
    ⟨(some 21), .r (.load none), [.tmp 20], some (17, true)⟩,
    ⟨(some 22), .p (.bin .eql), [.tmp 19, .tmp 21], some (17, true)⟩,
    ⟨(some 23), .p .pick, [.tmp 17, .tmp 22, .lit (.bool false)], none⟩,
    ⟨(some 24), .p .move, [.tmp 23], none⟩,
    ⟨(some 25), .p (.fieldAddr 3), [.tmp 2], some (24, true)⟩,
    ⟨(some 26), .r (.load none), [.tmp 25], some (24, true)⟩,
    ⟨(some 27), .p (.fieldAddr 3), [.tmp 3], some (24, true)⟩,
    ⟨(some 28), .r (.load none), [.tmp 27], some (24, true)⟩,
    ⟨(some 29), .p (.bin .eql), [.tmp 26, .tmp 28], some (24, true)⟩,
    ⟨(some 30), .p .pick, [.tmp 24, .tmp 29, .lit (.bool false)], none⟩,
    ⟨(some 31), .p .move, [.tmp 30], none⟩,
    ⟨(some 32), .p (.fieldAddr 4), [.tmp 2], some (31, true)⟩,
    ⟨(some 33), .r (.load (some 21)), [.tmp 32], some (31, true)⟩,
    ⟨(some 34), .p (.fieldAddr 4), [.tmp 3], some (31, true)⟩,
    ⟨(some 35), .r (.load (some 21)), [.tmp 34], some (31, true)⟩,
    ⟨(some 36), .h (.call 30), [.tmp 33, .tmp 35], some (31, true)⟩,
    ⟨(some 37), .p .pick, [.tmp 31, .tmp 36, .lit (.bool false)], none⟩,
    ⟨(some 4), .p .move, [.tmp 37], none⟩])
  .ret)), [.tmp 4]⟩
theorem c17 : cFunc Go.Proofs.Try.prog false 2 Go.Proofs.Try.f17 = some sf17 := by kernel_rfl

/-- (*rosary/rosaryref1.Link).Send -/
def sf18 : SFunc := ⟨2, 50, (.seq (.reg [⟨(some 3), .a .box, [.tmp 1], none⟩,
    ⟨(some 4), .a (.alloc [(.int .i64 0), (.int .i64 0), (.int .i64 0), (.int .i64 0), (.int .i64 0), (.int .i64 0), (.int .i64 0), (.int .i64 0), (.int .i64 0), (.str []), (.str []), (.str []), (.int .i64 0), (.int .i64 0), (.str []), .nilslice, (.bool false), (.str []), (.int .i64 0), (.int .u64 0), (.int .u64 0), (.int .i64 0), .nilslice, (.int .i64 0), (.int .i64 0)]), [], none⟩])
  (.seq (.reg [⟨(some 5), .p .move, [.tmp 0], none⟩,
    ⟨(some 6), .p .nilCheck, [.tmp 5], none⟩,
    ⟨(some 7), .p (.fieldAddr 2), [.tmp 6], none⟩,
    ⟨(some 8), .r (.load none), [.tmp 7], none⟩,
    ⟨(some 9), .p (.bin .add), [.tmp 8, .lit (.int .i64 1)], none⟩,
    ⟨(some 10), .p .nilCheck, [.tmp 5], none⟩,
    ⟨(some 11), .p (.fieldAddr 2), [.tmp 10], none⟩,
    ⟨none, .h (.store 1), [.tmp 11, .tmp 9], none⟩])
  (.seq (.dreg [⟨[⟨(some 12), .p .move, [.tmp 0], none⟩,
    ⟨(some 13), .p .move, [.tmp 0], none⟩,
    ⟨(some 14), .p .nilCheck, [.tmp 13], none⟩,
    ⟨(some 15), .p (.fieldAddr 3), [.tmp 14], none⟩,
    ⟨(some 16), .r (.load none), [.tmp 15], none⟩,
    ⟨(some 18), .p .move, [.tmp 0], none⟩,
    ⟨(some 19), .p .nilCheck, [.tmp 18], none⟩,
    ⟨(some 20), .p (.fieldAddr 2), [.tmp 19], none⟩,
    ⟨(some 21), .r (.load none), [.tmp 20], none⟩,
    ⟨(some 22), .p .move, [.tmp 0], none⟩,
    ⟨(some 23), .p .nilCheck, [.tmp 22], none⟩,
    ⟨(some 24), .p (.fieldAddr 6), [.tmp 23], none⟩,
    ⟨(some 25), .r (.load none), [.tmp 24], none⟩,
    ⟨(some 26), .r (.load (some 21)), [.tmp 3], none⟩,
    ⟨(some 27), .p (.build [(.int .i64 0), (.int .i64 0), (.int .i64 0), (.int .i64 0), (.int .i64 0), (.int .i64 0), (.int .i64 0), (.str []), (.str []), (.str []), (.int .i64 0), (.int .i64 0), (.str []), .nilslice, (.bool false), (.str []), (.int .i64 0), (.int .u64 0), (.int .u64 0), (.int .i64 0), .nilslice, (.int .i64 0), (.int .i64 0)] [(0, 1), (1, 1), (2, 21)]), [.tmp 21, .tmp 25, .tmp 26], none⟩,
    ⟨(some 28), .a (.buildSlice 23 1 [(.int .i64 0), (.int .i64 0), (.int .i64 0), (.int .i64 0), (.int .i64 0), (.int .i64 0), (.int .i64 0), (.str []), (.str []), (.str []), (.int .i64 0), (.int .i64 0), (.str []), .nilslice, (.bool false), (.str []), (.int .i64 0), (.int .u64 0), (.int .u64 0), (.int .i64 0), .nilslice, (.int .i64 0), (.int .i64 0)] [0]), [.tmp 27], none⟩], [], some ⟨(some 17), .h (.append 23 false), [.lit .nilslice, .tmp 16], none⟩⟩,
   ⟨[], [⟨(some 21), .r (.load none), [.tmp 20], none⟩,
    ⟨(some 25), .r (.load none), [.tmp 24], none⟩,
    ⟨(some 26), .r (.load (some 21)), [.tmp 3], none⟩], some ⟨(some 29), .h (.append 23 false), [.tmp 17, .tmp 28], none⟩⟩,
   ⟨[⟨(some 30), .p .nilCheck, [.tmp 12], none⟩,
    ⟨(some 31), .p (.fieldAddr 3), [.tmp 30], none⟩], [], some ⟨none, .h (.store 1), [.tmp 31, .tmp 29], none⟩⟩,
   ⟨[], [], none⟩])
  (.seq (.dreg [⟨[⟨(some 32), .p .move, [.tmp 0], none⟩,
    ⟨(some 33), .p .nilCheck, [.tmp 32], none⟩,
    ⟨(some 34), .p (.fieldAddr 0), [.tmp 33], none⟩,
    ⟨(some 35), .r (.load none), [.tmp 34], none⟩,
    ⟨(some 36), .p .move, [.tmp 0], none⟩,
    ⟨(some 37), .p .nilCheck, [.tmp 36], none⟩,
    ⟨(some 38), .p (.fieldAddr 1), [.tmp 37], none⟩,
    ⟨(some 39), .r (.load none), [.tmp 38], none⟩,
    ⟨(some 40), .p .move, [.tmp 0], none⟩,
    ⟨(some 41), .p .nilCheck, [.tmp 40], none⟩,
    ⟨(some 42), .p (.fieldAddr 2), [.tmp 41], none⟩,
    ⟨(some 43), .r (.load none), [.tmp 42], none⟩,
    ⟨(some 44), .p .move, [.tmp 0], none⟩,
    ⟨(some 45), .p .nilCheck, [.tmp 44], none⟩,
    ⟨(some 46), .p (.fieldAddr 4), [.tmp 45], none⟩,
    ⟨(some 47), .r (.load none), [.tmp 46], none⟩,
    ⟨(some 48), .r (.load (some 21)), [.tmp 3], none⟩,
    ⟨(some 49), .p (.build [(.int .i64 0), (.int .i64 0), (.int .i64 0), (.int .i64 0), (.int .i64 0), (.int .i64 0), (.int .i64 0), (.int .i64 0), (.int .i64 0), (.str []), (.str []), (.str []), (.int .i64 0), (.int .i64 0), (.str []), .nilslice, (.bool false), (.str []), (.int .i64 0), (.int .u64 0), (.int .u64 0), (.int .i64 0), .nilslice, (.int .i64 0), (.int .i64 0)] [(0, 1), (1, 1), (2, 1), (3, 1), (4, 21)]), [.tmp 35, .tmp 39, .tmp 43, .tmp 47, .tmp 48], none⟩], [], some ⟨none, .h (.store 25), [.tmp 4, .tmp 49], none⟩⟩,
   ⟨[], [], none⟩])
  .ret)))), [.cell 4 (some 25)]⟩
theorem c18 : cFunc Go.Proofs.Try.prog false 2 Go.Proofs.Try.f18 = some sf18 := by kernel_rfl

/-- (*rosary/link.Link).Tick -/
def sf19 : SFunc := ⟨1, 68, (.seq (.reg [⟨(some 2), .p .move, [.lit .nilslice], none⟩])
  (.seq (.seq (.reg [⟨(some 5), .p .move, [.tmp 0], none⟩,
    ⟨(some 6), .p (.eq false .ptr), [.tmp 5, .lit .nilptr], none⟩])
  (.cond (.tmp 6) (.seq (.reg [⟨(some 2), .p .move, [.lit .nilslice], none⟩])
  .ret)
  .skip))
  (.seq (.reg [⟨(some 7), .p .move, [.tmp 0], none⟩,
    ⟨(some 8), .p .nilCheck, [.tmp 7], none⟩,
    ⟨(some 9), .p (.fieldAddr 2), [.tmp 8], none⟩,
    ⟨(some 10), .r (.load none), [.tmp 9], none⟩,
    ⟨(some 11), .p (.bin .add), [.tmp 10, .lit (.int .i64 1)], none⟩,
    ⟨(some 12), .p .nilCheck, [.tmp 7], none⟩,
    ⟨(some 13), .p (.fieldAddr 2), [.tmp 12], none⟩,
    ⟨none, .h (.store 1), [.tmp 13, .tmp 11], none⟩])
  (.seq (.seq (.dreg [⟨[⟨(some 14), .p .move, [.tmp 0], none⟩,
    ⟨(some 15), .p .nilCheck, [.tmp 14], none⟩,
    ⟨(some 16), .p (.fieldAddr 4), [.tmp 15], none⟩,
    ⟨(some 17), .r (.load none), [.tmp 16], none⟩,
    ⟨(some 18), .p .lenSl, [.tmp 17], none⟩,
    ⟨(some 19), .p (.bin .eql), [.tmp 18, .lit (.int .i64 0)], none⟩,
    ⟨(some 20), .p .move, [.tmp 19], none⟩,
    ⟨(some 21), .p .move, [.tmp 0], some (20, false)⟩,
    ⟨(some 22), .p .nilCheck, [.tmp 21], some (20, false)⟩,
    ⟨(some 23), .p (.fieldAddr 2), [.tmp 22], some (20, false)⟩,
    ⟨(some 24), .r (.load none), [.tmp 23], some (20, false)⟩,
    ⟨(some 25), .p .move, [.tmp 0], some (20, false)⟩,
    ⟨(some 26), .p .nilCheck, [.tmp 25], some (20, false)⟩,
    ⟨(some 27), .p (.fieldAddr 4), [.tmp 26], some (20, false)⟩,
    ⟨(some 28), .r (.load none), [.tmp 27], some (20, false)⟩,
    ⟨(some 29), .p (.indexAddr 23), [.tmp 28, .lit (.int .i64 0)], some (20, false)⟩,
    ⟨(some 30), .p (.fieldAddr 22), [.tmp 29], some (20, false)⟩,
    ⟨(some 31), .r (.load none), [.tmp 30], some (20, false)⟩,
    ⟨(some 32), .p (.bin .sub), [.tmp 24, .tmp 31], some (20, false)⟩,
    ⟨(some 33), .p (.bin .lss), [.tmp 32, .lit (.int .i64 4)], some (20, false)⟩,
    ⟨(some 34), .p .pick, [.tmp 20, .lit (.bool true), .tmp 33], none⟩], [], none⟩])
  (.cond (.tmp 34) (.seq (.reg [⟨(some 2), .p .move, [.lit .nilslice], none⟩])
  .ret)
  .skip))
  (.seq (.reg [⟨(some 3), .p .move, [.lit .nilslice], none⟩])
  (.seq (.seq (.reg [⟨(some 35), .p .move, [.tmp 0], none⟩,
    ⟨(some 36), .p .nilCheck, [.tmp 35], none⟩,
    ⟨(some 37), .p (.fieldAddr 4), [.tmp 36], none⟩,
    ⟨(some 38), .r (.load none), [.tmp 37], none⟩,
    ⟨(some 39), .p .lenSl, [.tmp 38], none⟩,
    ⟨(some 40), .p .move, [.lit (.int .i64 0)], none⟩])
  (.block 0 (.loop [0, 3, 39, 40] (.seq (.reg [⟨(some 41), .p (.bin .lss), [.tmp 40, .tmp 39], none⟩])
  (.seq (.cond (.tmp 41) .skip
  (.exit 0))
  (.seq (.block 1 (.seq (.reg [⟨(some 42), .p .move, [.tmp 40], none⟩,
    ⟨(some 4), .p .move, [.tmp 42], none⟩])
  (.seq (.dreg [⟨[⟨(some 43), .p .move, [.tmp 0], none⟩,
    ⟨(some 44), .p .nilCheck, [.tmp 43], none⟩,
    ⟨(some 45), .p (.fieldAddr 4), [.tmp 44], none⟩,
    ⟨(some 46), .r (.load none), [.tmp 45], none⟩,
    ⟨(some 47), .p .move, [.tmp 4], none⟩,
    ⟨(some 48), .p .move, [.tmp 0], none⟩,
    ⟨(some 49), .p .nilCheck, [.tmp 48], none⟩,
    ⟨(some 50), .p (.fieldAddr 2), [.tmp 49], none⟩,
    ⟨(some 51), .r (.load none), [.tmp 50], none⟩,
    ⟨(some 52), .p (.indexAddr 23), [.tmp 46, .tmp 47], none⟩,
    ⟨(some 53), .p (.fieldAddr 22), [.tmp 52], none⟩], [], some ⟨none, .h (.store 1), [.tmp 53, .tmp 51], none⟩⟩,
   ⟨[], [], none⟩])
  (.reg [⟨(some 54), .p .move, [.tmp 3], none⟩,
    ⟨(some 55), .p .move, [.tmp 0], none⟩,
    ⟨(some 56), .p .move, [.tmp 0], none⟩,
    ⟨(some 57), .p .nilCheck, [.tmp 56], none⟩,
    ⟨(some 58), .p (.fieldAddr 4), [.tmp 57], none⟩,
    ⟨(some 59), .r (.load none), [.tmp 58], none⟩,
    ⟨(some 60), .p .move, [.tmp 4], none⟩,
    ⟨(some 61), .p (.indexAddr 23), [.tmp 59, .tmp 60], none⟩,
    ⟨(some 62), .r (.load (some 23)), [.tmp 61], none⟩,
    ⟨(some 63), .h (.call 29), [.tmp 55, .tmp 62], none⟩,
    ⟨(some 64), .a (.buildSlice 25 1 [(.int .i64 0), (.int .i64 0), (.int .i64 0), (.int .i64 0), (.int .i64 0), (.int .i64 0), (.int .i64 0), (.int .i64 0), (.int .i64 0), (.str []), (.str []), (.str []), (.int .i64 0), (.int .i64 0), (.str []), .nilslice, (.bool false), (.str []), (.int .i64 0), (.int .u64 0), (.int .u64 0), (.int .i64 0), .nilslice, (.int .i64 0), (.int .i64 0)] [0]), [.tmp 63], none⟩,
    ⟨(some 65), .h (.append 25 false), [.tmp 54, .tmp 64], none⟩,
    ⟨(some 3), .p .move, [.tmp 65], none⟩]))))
  (.reg [⟨(some 66), .p (.bin .add), [.tmp 40, .lit (.int .i64 1)], none⟩,
    ⟨(some 40), .p .move, [.tmp 66], none⟩])))))))
  (.seq (.reg [⟨(some 67), .p .move, [.tmp 3], none⟩,
    ⟨(some 2), .p .move, [.tmp 67], none⟩])
  .ret))))))), [.tmp 2]⟩
theorem c19 : cFunc Go.Proofs.Try.prog false 1 Go.Proofs.Try.f19 = some sf19 := by kernel_rfl

/-- (*rosary/rosaryref1.Link).Tick -/
def sf20 : SFunc := ⟨1, 94, (.seq (.reg [⟨(some 2), .p .move, [.lit .nilslice], none⟩])
  (.seq (.reg [⟨(some 5), .p .move, [.tmp 0], none⟩,
    ⟨(some 6), .p .nilCheck, [.tmp 5], none⟩,
    ⟨(some 7), .p (.fieldAddr 6), [.tmp 6], none⟩,
    ⟨(some 8), .r (.load none), [.tmp 7], none⟩,
    ⟨(some 9), .p (.bin .add), [.tmp 8, .lit (.int .i64 1)], none⟩,
    ⟨(some 10), .p .nilCheck, [.tmp 5], none⟩,
    ⟨(some 11), .p (.fieldAddr 6), [.tmp 10], none⟩,
    ⟨none, .h (.store 1), [.tmp 11, .tmp 9], none⟩])
  (.seq (.seq (.dreg [⟨[⟨(some 12), .p .move, [.tmp 0], none⟩,
    ⟨(some 13), .p .nilCheck, [.tmp 12], none⟩,
    ⟨(some 14), .p (.fieldAddr 3), [.tmp 13], none⟩,
    ⟨(some 15), .r (.load none), [.tmp 14], none⟩,
    ⟨(some 16), .p .lenSl, [.tmp 15], none⟩,
    ⟨(some 17), .p (.bin .eql), [.tmp 16, .lit (.int .i64 0)], none⟩,
    ⟨(some 18), .p .move, [.tmp 17], none⟩,
    ⟨(some 19), .p .move, [.tmp 0], some (18, false)⟩,
    ⟨(some 20), .p .nilCheck, [.tmp 19], some (18, false)⟩,
    ⟨(some 21), .p (.fieldAddr 6), [.tmp 20], some (18, false)⟩,
    ⟨(some 22), .r (.load none), [.tmp 21], some (18, false)⟩,
    ⟨(some 23), .p .move, [.tmp 0], some (18, false)⟩,
    ⟨(some 24), .p .nilCheck, [.tmp 23], some (18, false)⟩,
    ⟨(some 25), .p (.fieldAddr 3), [.tmp 24], some (18, false)⟩,
    ⟨(some 26), .r (.load none), [.tmp 25], some (18, false)⟩,
    ⟨(some 27), .p (.indexAddr 23), [.tmp 26, .lit (.int .i64 0)], some (18, false)⟩,
    ⟨(some 28), .p (.fieldAddr 1), [.tmp 27], some (18, false)⟩,
    ⟨(some 29), .r (.load none), [.tmp 28], some (18, false)⟩,
    ⟨(some 30), .p (.bin .sub), [.tmp 22, .tmp 29], some (18, false)⟩,
    ⟨(some 31), .p (.bin .lss), [.tmp 30, .lit (.int .i64 4)], some (18, false)⟩,
    ⟨(some 32), .p .pick, [.tmp 18, .lit (.bool true), .tmp 31], none⟩], [], none⟩])
  (.cond (.tmp 32) (.seq (.reg [⟨(some 2), .p .move, [.lit .nilslice], none⟩])
  .ret)
  .skip))
  (.seq (.reg [⟨(some 3), .p .move, [.lit .nilslice], none⟩])
  (.seq (.reg [⟨(some 33), .p .move, [.tmp 0], none⟩,
    ⟨(some 34), .p .move, [.tmp 0], none⟩,
    ⟨(some 35), .p .nilCheck, [.tmp 34], none⟩,
    ⟨(some 36), .p (.fieldAddr 3), [.tmp 35], none⟩,
    ⟨(some 37), .r (.load none), [.tmp 36], none⟩,
    ⟨(some 38), .h (.append 23 false), [.lit .nilslice, .tmp 37], none⟩,
    ⟨(some 39), .p .nilCheck, [.tmp 33], none⟩,
    ⟨(some 40), .p (.fieldAddr 3), [.tmp 39], none⟩,
    ⟨none, .h (.store 1), [.tmp 40, .tmp 38], none⟩])
  (.seq (.seq (.reg [⟨(some 4), .p .move, [.lit (.int .i64 0)], none⟩])
  (.block 0 (.loop [0, 3, 4] (.seq (.seq (.reg [⟨(some 41), .p .move, [.tmp 4], none⟩,
    ⟨(some 42), .p .move, [.tmp 0], none⟩,
    ⟨(some 43), .p .nilCheck, [.tmp 42], none⟩,
    ⟨(some 44), .p (.fieldAddr 3), [.tmp 43], none⟩,
    ⟨(some 45), .r (.load none), [.tmp 44], none⟩,
    ⟨(some 46), .p .lenSl, [.tmp 45], none⟩,
    ⟨(some 47), .p (.bin .lss), [.tmp 41, .tmp 46], none⟩])
  (.cond (.tmp 47) .skip
  (.exit 0)))
  (.seq (.block 1 (.seq (.dreg [⟨[⟨(some 50), .p .move, [.tmp 0], none⟩,
    ⟨(some 51), .p .nilCheck, [.tmp 50], none⟩,
    ⟨(some 52), .p (.fieldAddr 3), [.tmp 51], none⟩,
    ⟨(some 53), .r (.load none), [.tmp 52], none⟩,
    ⟨(some 54), .p .move, [.tmp 4], none⟩,
    ⟨(some 55), .p .move, [.tmp 0], none⟩,
    ⟨(some 56), .p .nilCheck, [.tmp 55], none⟩,
    ⟨(some 57), .p (.fieldAddr 6), [.tmp 56], none⟩,
    ⟨(some 58), .r (.load none), [.tmp 57], none⟩,
    ⟨(some 59), .p (.indexAddr 23), [.tmp 53, .tmp 54], none⟩,
    ⟨(some 60), .p (.fieldAddr 1), [.tmp 59], none⟩], [], some ⟨none, .h (.store 1), [.tmp 60, .tmp 58], none⟩⟩,
   ⟨[], [], none⟩])
  (.dreg [⟨[⟨(some 61), .p .move, [.tmp 3], none⟩,
    ⟨(some 62), .p .move, [.tmp 0], none⟩,
    ⟨(some 63), .p .nilCheck, [.tmp 62], none⟩,
    ⟨(some 64), .p (.fieldAddr 0), [.tmp 63], none⟩,
    ⟨(some 65), .r (.load none), [.tmp 64], none⟩,
    ⟨(some 66), .p .move, [.tmp 0], none⟩,
    ⟨(some 67), .p .nilCheck, [.tmp 66], none⟩,
    ⟨(some 68), .p (.fieldAddr 1), [.tmp 67], none⟩,
    ⟨(some 69), .r (.load none), [.tmp 68], none⟩,
    ⟨(some 70), .p .move, [.tmp 0], none⟩,
    ⟨(some 71), .p .nilCheck, [.tmp 70], none⟩,
    ⟨(some 72), .p (.fieldAddr 3), [.tmp 71], none⟩,
    ⟨(some 73), .r (.load none), [.tmp 72], none⟩,
    ⟨(some 74), .p .move, [.tmp 4], none⟩,
    ⟨(some 75), .p (.indexAddr 23), [.tmp 73, .tmp 74], none⟩,
    ⟨(some 76), .p (.fieldAddr 0), [.tmp 75], none⟩,
    ⟨(some 77), .r (.load none), [.tmp 76], none⟩,
    ⟨(some 78), .p .move, [.tmp 0], none⟩,
    ⟨(some 79), .p .nilCheck, [.tmp 78], none⟩,
    ⟨(some 80), .p (.fieldAddr 4), [.tmp 79], none⟩,
    ⟨(some 81), .r (.load none), [.tmp 80], none⟩,
    ⟨(some 82), .p .move, [.tmp 0], none⟩,
    ⟨(some 83), .p .nilCheck, [.tmp 82], none⟩,
    ⟨(some 84), .p (.fieldAddr 3), [.tmp 83], none⟩,
    ⟨(some 85), .r (.load none), [.tmp 84], none⟩,
    ⟨(some 86), .p .move, [.tmp 4], none⟩,
    ⟨(some 87), .p (.indexAddr 23), [.tmp 85, .tmp 86], none⟩,
    ⟨(some 88), .p (.fieldAddr 2), [.tmp 87], none⟩,
    ⟨(some 89), .r (.load (some 21)), [.tmp 88], none⟩,
    ⟨(some 90), .p (.build [(.int .i64 0), (.int .i64 0), (.int .i64 0), (.int .i64 0), (.int .i64 0), (.int .i64 0), (.int .i64 0), (.int .i64 0), (.int .i64 0), (.str []), (.str []), (.str []), (.int .i64 0), (.int .i64 0), (.str []), .nilslice, (.bool false), (.str []), (.int .i64 0), (.int .u64 0), (.int .u64 0), (.int .i64 0), .nilslice, (.int .i64 0), (.int .i64 0)] [(0, 1), (1, 1), (2, 1), (3, 1), (4, 21)]), [.tmp 65, .tmp 69, .tmp 77, .tmp 81, .tmp 89], none⟩,
    ⟨(some 91), .a (.buildSlice 25 1 [(.int .i64 0), (.int .i64 0), (.int .i64 0), (.int .i64 0), (.int .i64 0), (.int .i64 0), (.int .i64 0), (.int .i64 0), (.int .i64 0), (.str []), (.str []), (.str []), (.int .i64 0), (.int .i64 0), (.str []), .nilslice, (.bool false), (.str []), (.int .i64 0), (.int .u64 0), (.int .u64 0), (.int .i64 0), .nilslice, (.int .i64 0), (.int .i64 0)] [0]), [.tmp 90], none⟩], [], some ⟨(some 92), .h (.append 25 false), [.tmp 61, .tmp 91], none⟩⟩,
   ⟨[⟨(some 3), .p .move, [.tmp 92], none⟩], [], none⟩])))
  (.reg [⟨(some 48), .p .move, [.tmp 4], none⟩,
    ⟨(some 49), .p (.bin .add), [.tmp 48, .lit (.int .i64 1)], none⟩,
    ⟨(some 4), .p .move, [.tmp 49], none⟩]))))))
  (.seq (.reg [⟨(some 93), .p .move, [.tmp 3], none⟩,
    ⟨(some 2), .p .move, [.tmp 93], none⟩])
  .ret))))))), [.tmp 2]⟩
theorem c20 : cFunc Go.Proofs.Try.prog false 1 Go.Proofs.Try.f20 = some sf20 := by kernel_rfl

/-- (*rosary/rosaryref1.Link).Got -/
def sf21 : SFunc := ⟨2, 186, (.seq (.reg [⟨(some 3), .a .box, [.tmp 1], none⟩,
    ⟨(some 4), .p .move, [.lit .nilslice], none⟩,
    ⟨(some 5), .a (.alloc [(.int .i64 0), (.int .i64 0), (.int .i64 0), (.int .i64 0), (.int .i64 0), (.int .i64 0), (.int .i64 0), (.int .i64 0), (.int .i64 0), (.str []), (.str []), (.str []), (.int .i64 0), (.int .i64 0), (.str []), .nilslice, (.bool false), (.str []), (.int .i64 0), (.int .u64 0), (.int .u64 0), (.int .i64 0), .nilslice, (.int .i64 0), (.int .i64 0)]), [], none⟩,
    ⟨(some 6), .p .move, [.lit (.bool false)], none⟩])
  (.seq (.seq (.dreg [⟨[⟨(some 11), .p (.fieldAddr 0), [.tmp 3], none⟩,
    ⟨(some 12), .r (.load none), [.tmp 11], none⟩,
    ⟨(some 13), .p .move, [.tmp 0], none⟩,
    ⟨(some 14), .p .nilCheck, [.tmp 13], none⟩,
    ⟨(some 15), .p (.fieldAddr 1), [.tmp 14], none⟩,
    ⟨(some 16), .r (.load none), [.tmp 15], none⟩,
    ⟨(some 17), .p (.bin .neq), [.tmp 12, .tmp 16], none⟩,
    ⟨(some 18), .p .move, [.tmp 17], none⟩,
    ⟨(some 19), .p (.fieldAddr 1), [.tmp 3], some (18, false)⟩,
    ⟨(some 20), .r (.load none), [.tmp 19], some (18, false)⟩,
    ⟨(some 21), .p .move, [.tmp 0], some (18, false)⟩,
    ⟨(some 22), .p .nilCheck, [.tmp 21], some (18, false)⟩,
    ⟨(some 23), .p (.fieldAddr 0), [.tmp 22], some (18, false)⟩,
    ⟨(some 24), .r (.load none), [.tmp 23], some (18, false)⟩,
    ⟨(some 25), .p (.bin .neq), [.tmp 20, .tmp 24], some (18, false)⟩,
    ⟨(some 26), .p .pick, [.tmp 18, .lit (.bool true), .tmp 25], none⟩,
    ⟨(some 27), .p .move, [.tmp 26], none⟩,
    ⟨(some 28), .p (.fieldAddr 2), [.tmp 3], some (27, false)⟩,
    ⟨(some 29), .r (.load none), [.tmp 28], some (27, false)⟩,
    ⟨(some 30), .p (.bin .lss), [.tmp 29, .lit (.int .i64 0)], some (27, false)⟩,
    ⟨(some 31), .p .pick, [.tmp 27, .lit (.bool true), .tmp 30], none⟩,
    ⟨(some 32), .p .move, [.tmp 31], none⟩,
    ⟨(some 33), .p (.fieldAddr 3), [.tmp 3], some (32, false)⟩,
    ⟨(some 34), .r (.load none), [.tmp 33], some (32, false)⟩,
    ⟨(some 35), .p (.bin .lss), [.tmp 34, .lit (.int .i64 0)], some (32, false)⟩,
    ⟨(some 36), .p .pick, [.tmp 32, .lit (.bool true), .tmp 35], none⟩,
    ⟨(some 37), .p .move, [.tmp 36], none⟩,
    ⟨(some 38), .p (.fieldAddr 3), [.tmp 3], some (37, false)⟩,
    ⟨(some 39), .r (.load none), [.tmp 38], some (37, false)⟩,
    ⟨(some 40), .p .move, [.tmp 0], some (37, false)⟩,
    ⟨(some 41), .p .nilCheck, [.tmp 40], some (37, false)⟩,
    ⟨(some 42), .p (.fieldAddr 2), [.tmp 41], some (37, false)⟩,
    ⟨(some 43), .r (.load none), [.tmp 42], some (37, false)⟩,
    ⟨(some 44), .p (.bin .gtr), [.tmp 39, .tmp 43], some (37, false)⟩,
    ⟨(some 45), .p .pick, [.tmp 37, .lit (.bool true), .tmp 44], none⟩], [], none⟩])
  (.cond (.tmp 45) (.seq (.reg [⟨(some 46), .p (.build [(.int .i64 0), (.int .i64 0), (.int .i64 0), (.int .i64 0), (.int .i64 0), (.int .i64 0), (.int .i64 0), (.int .i64 0), (.int .i64 0), (.str []), (.str []), (.str []), (.int .i64 0), (.int .i64 0), (.str []), .nilslice, (.bool false), (.str []), (.int .i64 0), (.int .u64 0), (.int .u64 0), (.int .i64 0), .nilslice, (.int .i64 0), (.int .i64 0)] []), [], none⟩,
    ⟨(some 4), .p .move, [.lit .nilslice], none⟩,
    ⟨none, .h (.store 25), [.tmp 5, .tmp 46], none⟩,
    ⟨(some 6), .p .move, [.lit (.bool false)], none⟩])
  .ret)
  .skip))
  (.seq (.reg [⟨(some 7), .p .move, [.lit .nilslice], none⟩])
  (.seq (.seq (.reg [⟨(some 8), .p .move, [.lit (.int .i64 0)], none⟩])
  (.block 0 (.loop [0, 3, 5, 7, 8] (.seq (.seq (.reg [⟨(some 47), .p .move, [.tmp 8], none⟩,
    ⟨(some 48), .p .move, [.tmp 0], none⟩,
    ⟨(some 49), .p .nilCheck, [.tmp 48], none⟩,
    ⟨(some 50), .p (.fieldAddr 3), [.tmp 49], none⟩,
    ⟨(some 51), .r (.load none), [.tmp 50], none⟩,
    ⟨(some 52), .p .lenSl, [.tmp 51], none⟩,
    ⟨(some 53), .p (.bin .lss), [.tmp 47, .tmp 52], none⟩])
  (.cond (.tmp 53) .skip
  (.exit 0)))
  (.seq (.block 1 (.seq (.dreg [⟨[⟨(some 56), .p .move, [.tmp 0], none⟩,
    ⟨(some 57), .p .nilCheck, [.tmp 56], none⟩,
    ⟨(some 58), .p (.fieldAddr 3), [.tmp 57], none⟩,
    ⟨(some 59), .r (.load none), [.tmp 58], none⟩,
    ⟨(some 60), .p .move, [.tmp 8], none⟩,
    ⟨(some 61), .p (.indexAddr 23), [.tmp 59, .tmp 60], none⟩,
    ⟨(some 62), .p (.fieldAddr 0), [.tmp 61], none⟩,
    ⟨(some 63), .r (.load none), [.tmp 62], none⟩,
    ⟨(some 64), .p (.fieldAddr 3), [.tmp 3], none⟩,
    ⟨(some 65), .r (.load none), [.tmp 64], none⟩,
    ⟨(some 66), .p (.bin .gtr), [.tmp 63, .tmp 65], none⟩], [], none⟩])
  (.cond (.tmp 66) (.reg [⟨(some 67), .p .move, [.tmp 7], none⟩,
    ⟨(some 68), .p .move, [.tmp 0], none⟩,
    ⟨(some 69), .p .nilCheck, [.tmp 68], none⟩,
    ⟨(some 70), .p (.fieldAddr 3), [.tmp 69], none⟩,
    ⟨(some 71), .r (.load none), [.tmp 70], none⟩,
    ⟨(some 72), .p .move, [.tmp 8], none⟩,
    ⟨(some 73), .p (.indexAddr 23), [.tmp 71, .tmp 72], none⟩,
    ⟨(some 74), .r (.load (some 23)), [.tmp 73], none⟩,
    ⟨(some 75), .a (.buildSlice 23 1 [(.int .i64 0), (.int .i64 0), (.int .i64 0), (.int .i64 0), (.int .i64 0), (.int .i64 0), (.int .i64 0), (.str []), (.str []), (.str []), (.int .i64 0), (.int .i64 0), (.str []), .nilslice, (.bool false), (.str []), (.int .i64 0), (.int .u64 0), (.int .u64 0), (.int .i64 0), .nilslice, (.int .i64 0), (.int .i64 0)] [0]), [.tmp 74], none⟩,
    ⟨(some 76), .h (.append 23 false), [.tmp 67, .tmp 75], none⟩,
    ⟨(some 7), .p .move, [.tmp 76], none⟩])
  .skip)))
  (.reg [⟨(some 54), .p .move, [.tmp 8], none⟩,
    ⟨(some 55), .p (.bin .add), [.tmp 54, .lit (.int .i64 1)], none⟩,
    ⟨(some 8), .p .move, [.tmp 55], none⟩]))))))
  (.seq (.reg [⟨(some 77), .p .move, [.tmp 0], none⟩,
    ⟨(some 78), .p .move, [.tmp 7], none⟩,
    ⟨(some 79), .p .nilCheck, [.tmp 77], none⟩,
    ⟨(some 80), .p (.fieldAddr 3), [.tmp 79], none⟩,
    ⟨none, .h (.store 1), [.tmp 80, .tmp 78], none⟩])
  (.seq (.seq (.reg [⟨(some 81), .p (.fieldAddr 2), [.tmp 3], none⟩,
    ⟨(some 82), .r (.load none), [.tmp 81], none⟩,
    ⟨(some 83), .p (.bin .eql), [.tmp 82, .lit (.int .i64 0)], none⟩])
  (.cond (.tmp 83) (.seq (.reg [⟨(some 84), .p (.build [(.int .i64 0), (.int .i64 0), (.int .i64 0), (.int .i64 0), (.int .i64 0), (.int .i64 0), (.int .i64 0), (.int .i64 0), (.int .i64 0), (.str []), (.str []), (.str []), (.int .i64 0), (.int .i64 0), (.str []), .nilslice, (.bool false), (.str []), (.int .i64 0), (.int .u64 0), (.int .u64 0), (.int .i64 0), .nilslice, (.int .i64 0), (.int .i64 0)] []), [], none⟩,
    ⟨(some 4), .p .move, [.lit .nilslice], none⟩,
    ⟨none, .h (.store 25), [.tmp 5, .tmp 84], none⟩,
    ⟨(some 6), .p .move, [.lit (.bool true)], none⟩])
  .ret)
  .skip))
  (.seq (.seq (.dreg [⟨[⟨(some 85), .p (.fieldAddr 2), [.tmp 3], none⟩,
    ⟨(some 86), .r (.load none), [.tmp 85], none⟩,
    ⟨(some 87), .p .move, [.tmp 0], none⟩,
    ⟨(some 88), .p .nilCheck, [.tmp 87], none⟩,
    ⟨(some 89), .p (.fieldAddr 4), [.tmp 88], none⟩,
    ⟨(some 90), .r (.load none), [.tmp 89], none⟩,
    ⟨(some 91), .p (.bin .gtr), [.tmp 86, .tmp 90], none⟩,
    ⟨(some 92), .p .move, [.tmp 91], none⟩,
    ⟨(some 93), .p (.fieldAddr 2), [.tmp 3], some (92, true)⟩,
    ⟨(some 94), .r (.load none), [.tmp 93], some (92, true)⟩,
    ⟨(some 95), .p .move, [.tmp 0], some (92, true)⟩,
    ⟨(some 96), .p .nilCheck, [.tmp 95], some (92, true)⟩,
    ⟨(some 97), .p (.fieldAddr 4), [.tmp 96], some (92, true)⟩,
    ⟨(some 98), .r (.load none), [.tmp 97], some (92, true)⟩,
    ⟨(some 99), .p (.bin .sub), [.tmp 94, .tmp 98], some (92, true)⟩,
    ⟨(some 100), .p (.bin .leq), [.tmp 99, .lit (.int .i64 64)], some (92, true)⟩,
    ⟨(some 101), .p .pick, [.tmp 92, .tmp 100, .lit (.bool false)], none⟩,
    ⟨(some 102), .p .move, [.tmp 101], none⟩,
    ⟨(some 103), .p .move, [.tmp 0], some (102, true)⟩,
    ⟨(some 104), .p (.fieldAddr 2), [.tmp 3], some (102, true)⟩,
    ⟨(some 105), .r (.load none), [.tmp 104], some (102, true)⟩], [], some ⟨(some 106), .h (.call 31), [.tmp 103, .tmp 105], some (102, true)⟩⟩,
   ⟨[⟨(some 107), .p (.bin .lss), [.tmp 106, .lit (.int .i64 0)], some (102, true)⟩,
    ⟨(some 108), .p .pick, [.tmp 102, .tmp 107, .lit (.bool false)], none⟩], [], none⟩])
  (.cond (.tmp 108) (.dreg [⟨[⟨(some 109), .p .move, [.tmp 0], none⟩,
    ⟨(some 110), .p .move, [.tmp 0], none⟩,
    ⟨(some 111), .p .nilCheck, [.tmp 110], none⟩,
    ⟨(some 112), .p (.fieldAddr 5), [.tmp 111], none⟩,
    ⟨(some 113), .r (.load none), [.tmp 112], none⟩,
    ⟨(some 115), .r (.load (some 25)), [.tmp 3], none⟩,
    ⟨(some 116), .a (.buildSlice 25 1 [(.int .i64 0), (.int .i64 0), (.int .i64 0), (.int .i64 0), (.int .i64 0), (.int .i64 0), (.int .i64 0), (.int .i64 0), (.int .i64 0), (.str []), (.str []), (.str []), (.int .i64 0), (.int .i64 0), (.str []), .nilslice, (.bool false), (.str []), (.int .i64 0), (.int .u64 0), (.int .u64 0), (.int .i64 0), .nilslice, (.int .i64 0), (.int .i64 0)] [0]), [.tmp 115], none⟩], [], some ⟨(some 114), .h (.append 25 false), [.lit .nilslice, .tmp 113], none⟩⟩,
   ⟨[], [⟨(some 115), .r (.load (some 25)), [.tmp 3], none⟩], some ⟨(some 117), .h (.append 25 false), [.tmp 114, .tmp 116], none⟩⟩,
   ⟨[⟨(some 118), .p .nilCheck, [.tmp 109], none⟩,
    ⟨(some 119), .p (.fieldAddr 5), [.tmp 118], none⟩], [], some ⟨none, .h (.store 1), [.tmp 119, .tmp 117], none⟩⟩,
   ⟨[], [], none⟩])
  .skip))
  (.seq (.reg [⟨(some 9), .p .move, [.lit .nilslice], none⟩])
  (.seq (.seq (.reg [⟨(some 120), .p .move, [.tmp 0], none⟩,
    ⟨(some 121), .p .move, [.tmp 0], none⟩,
    ⟨(some 122), .p .nilCheck, [.tmp 121], none⟩,
    ⟨(some 123), .p (.fieldAddr 4), [.tmp 122], none⟩,
    ⟨(some 124), .r (.load none), [.tmp 123], none⟩,
    ⟨(some 125), .p (.bin .add), [.tmp 124, .lit (.int .i64 1)], none⟩,
    ⟨(some 126), .h (.call 31), [.tmp 120, .tmp 125], none⟩,
    ⟨(some 10), .p .move, [.tmp 126], none⟩])
  (.block 2 (.loop [0, 5, 9, 10] (.seq (.seq (.reg [⟨(some 127), .p .move, [.tmp 10], none⟩,
    ⟨(some 128), .p (.bin .geq), [.tmp 127, .lit (.int .i64 0)], none⟩])
  (.cond (.tmp 128) .skip
  (.exit 2)))
  (.seq (.block 3 (.seq (.reg [⟨(some 136), .p .move, [.tmp 9], none⟩,
    ⟨(some 137), .p .move, [.tmp 0], none⟩,
    ⟨(some 138), .p .nilCheck, [.tmp 137], none⟩,
    ⟨(some 139), .p (.fieldAddr 5), [.tmp 138], none⟩,
    ⟨(some 140), .r (.load none), [.tmp 139], none⟩,
    ⟨(some 141), .p .move, [.tmp 10], none⟩,
    ⟨(some 142), .p (.indexAddr 25), [.tmp 140, .tmp 141], none⟩,
    ⟨(some 143), .p (.fieldAddr 4), [.tmp 142], none⟩,
    ⟨(some 144), .r (.load (some 21)), [.tmp 143], none⟩,
    ⟨(some 145), .a (.buildSlice 21 1 [(.int .i64 0), (.int .i64 0), (.int .i64 0), (.int .i64 0), (.int .i64 0), (.str []), (.str []), (.str []), (.int .i64 0), (.int .i64 0), (.str []), .nilslice, (.bool false), (.str []), (.int .i64 0), (.int .u64 0), (.int .u64 0), (.int .i64 0), .nilslice, (.int .i64 0), (.int .i64 0)] [0]), [.tmp 144], none⟩,
    ⟨(some 146), .h (.append 21 false), [.tmp 136, .tmp 145], none⟩,
    ⟨(some 9), .p .move, [.tmp 146], none⟩])
  (.seq (.dreg [⟨[⟨(some 147), .p .move, [.tmp 0], none⟩,
    ⟨(some 148), .p .move, [.tmp 0], none⟩,
    ⟨(some 149), .p .nilCheck, [.tmp 148], none⟩,
    ⟨(some 150), .p (.fieldAddr 5), [.tmp 149], none⟩,
    ⟨(some 151), .r (.load none), [.tmp 150], none⟩,
    ⟨(some 152), .p .move, [.tmp 10], none⟩,
    ⟨(some 153), .p (.sliceSl 25 false true false), [.tmp 151, .tmp 152], none⟩,
    ⟨(some 155), .p .move, [.tmp 0], none⟩,
    ⟨(some 156), .p .nilCheck, [.tmp 155], none⟩,
    ⟨(some 157), .p (.fieldAddr 5), [.tmp 156], none⟩,
    ⟨(some 158), .r (.load none), [.tmp 157], none⟩,
    ⟨(some 159), .p .move, [.tmp 10], none⟩,
    ⟨(some 160), .p (.bin .add), [.tmp 159, .lit (.int .i64 1)], none⟩,
    ⟨(some 161), .p (.sliceSl 25 true false false), [.tmp 158, .tmp 160], none⟩], [], some ⟨(some 154), .h (.append 25 false), [.lit .nilslice, .tmp 153], none⟩⟩,
   ⟨[], [⟨(some 158), .r (.load none), [.tmp 157], none⟩], some ⟨(some 162), .h (.append 25 false), [.tmp 154, .tmp 161], none⟩⟩,
   ⟨[⟨(some 163), .p .nilCheck, [.tmp 147], none⟩,
    ⟨(some 164), .p (.fieldAddr 5), [.tmp 163], none⟩], [], some ⟨none, .h (.store 1), [.tmp 164, .tmp 162], none⟩⟩,
   ⟨[], [], none⟩])
  (.reg [⟨(some 165), .p .move, [.tmp 0], none⟩,
    ⟨(some 166), .p .nilCheck, [.tmp 165], none⟩,
    ⟨(some 167), .p (.fieldAddr 4), [.tmp 166], none⟩,
    ⟨(some 168), .r (.load none), [.tmp 167], none⟩,
    ⟨(some 169), .p (.bin .add), [.tmp 168, .lit (.int .i64 1)], none⟩,
    ⟨(some 170), .p .nilCheck, [.tmp 165], none⟩,
    ⟨(some 171), .p (.fieldAddr 4), [.tmp 170], none⟩,
    ⟨none, .h (.store 1), [.tmp 171, .tmp 169], none⟩]))))
  (.reg [⟨(some 129), .p .move, [.tmp 0], none⟩,
    ⟨(some 130), .p .move, [.tmp 0], none⟩,
    ⟨(some 131), .p .nilCheck, [.tmp 130], none⟩,
    ⟨(some 132), .p (.fieldAddr 4), [.tmp 131], none⟩,
    ⟨(some 133), .r (.load none), [.tmp 132], none⟩,
    ⟨(some 134), .p (.bin .add), [.tmp 133, .lit (.int .i64 1)], none⟩,
    ⟨(some 135), .h (.call 31), [.tmp 129, .tmp 134], none⟩,
    ⟨(some 10), .p .move, [.tmp 135], none⟩]))))))
  (.seq (.dreg [⟨[⟨(some 172), .p .move, [.tmp 9], none⟩,
    ⟨(some 173), .p .move, [.tmp 0], none⟩,
    ⟨(some 174), .p .nilCheck, [.tmp 173], none⟩,
    ⟨(some 175), .p (.fieldAddr 0), [.tmp 174], none⟩,
    ⟨(some 176), .r (.load none), [.tmp 175], none⟩,
    ⟨(some 177), .p .move, [.tmp 0], none⟩,
    ⟨(some 178), .p .nilCheck, [.tmp 177], none⟩,
    ⟨(some 179), .p (.fieldAddr 1), [.tmp 178], none⟩,
    ⟨(some 180), .r (.load none), [.tmp 179], none⟩,
    ⟨(some 181), .p .move, [.tmp 0], none⟩,
    ⟨(some 182), .p .nilCheck, [.tmp 181], none⟩,
    ⟨(some 183), .p (.fieldAddr 4), [.tmp 182], none⟩,
    ⟨(some 184), .r (.load none), [.tmp 183], none⟩,
    ⟨(some 185), .p (.build [(.int .i64 0), (.int .i64 0), (.int .i64 0), (.int .i64 0), (.int .i64 0), (.int .i64 0), (.int .i64 0), (.int .i64 0), (.int .i64 0), (.str []), (.str []), (.str []), (.int .i64 0), (.int .i64 0), (.str []), .nilslice, (.bool false), (.str []), (.int .i64 0), (.int .u64 0), (.int .u64 0), (.int .i64 0), .nilslice, (.int .i64 0), (.int .i64 0)] [(0, 1), (1, 1), (3, 1)]), [.tmp 176, .tmp 180, .tmp 184], none⟩,
    ⟨(some 4), .p .move, [.tmp 172], none⟩], [], some ⟨none, .h (.store 25), [.tmp 5, .tmp 185], none⟩⟩,
   ⟨[⟨(some 6), .p .move, [.lit (.bool true)], none⟩], [], none⟩])
  .ret)))))))))), [.tmp 4, .cell 5 (some 25), .tmp 6]⟩
theorem c21 : cFunc Go.Proofs.Try.prog false 2 Go.Proofs.Try.f21 = some sf21 := by kernel_rfl

end Go.Proofs.Ytmbkklobijflkaa.F
