/- The functions of this seat's program, translated for the engine (printed by wip/eng/dump.lean). -/
import Derived.Test.YtgnenipkebelfaaGreatDoorEngV
import Derived.Test.YtgnenipkebelfaaGreatDoorProg
import Derived.KernelRfl
set_option maxRecDepth 1000000
set_option linter.unusedVariables false
namespace Go.Proofs.YtgnenipkebelfaaGreatDoor.F
open Go Go.Eng

/-- rosary/rosarylaw7.LetterTells -/
def sf3 : SFunc := ⟨2, 181, (.seq (.reg [⟨(some 2), .a .box, [.tmp 0], none⟩,
    ⟨(some 4), .p .move, [.lit (.bool false)], none⟩])
  (.seq (.seq (.reg [⟨(some 18), .r (.load (some 21)), [.tmp 2], none⟩,
    ⟨(some 19), .h (.call 4), [.tmp 18], none⟩,
    ⟨(some 20), .p .not, [.tmp 19], none⟩,
    ⟨(some 21), .p .move, [.tmp 20], none⟩,
    ⟨(some 22), .p .move, [.tmp 1], some (21, false)⟩,
    ⟨(some 23), .p .lenStr, [.tmp 22], some (21, false)⟩,
    ⟨(some 24), .p (.bin .gtr), [.tmp 23, .lit (.int .i64 3000)], some (21, false)⟩,
    ⟨(some 25), .p .pick, [.tmp 21, .lit (.bool true), .tmp 24], none⟩,
    ⟨(some 26), .p .move, [.tmp 25], none⟩,
    ⟨(some 27), .h (.call 5), [], some (26, false)⟩,
    ⟨(some 28), .p .not, [.tmp 27], some (26, false)⟩,
    ⟨(some 29), .p .pick, [.tmp 26, .lit (.bool true), .tmp 28], none⟩])
  (.cond (.tmp 29) (.seq (.reg [⟨(some 30), .h (.call 5), [], none⟩,
    ⟨(some 4), .p .move, [.tmp 30], none⟩])
  .ret)
  .skip))
  (.seq (.reg [⟨(some 31), .r (.load (some 21)), [.tmp 2], none⟩,
    ⟨(some 5), .a (.alloc [(.int .i64 0), (.int .i64 0), (.int .i64 0), (.int .i64 0), (.int .i64 0), (.str []), (.str []), (.str []), (.int .i64 0), (.int .i64 0), (.str []), .nilslice, (.bool false), (.str []), (.int .i64 0), (.int .u64 0), (.int .u64 0), (.int .i64 0), .nilslice, (.int .i64 0), (.int .i64 0)]), [], none⟩,
    ⟨none, .h (.store 21), [.tmp 5, .tmp 31], none⟩])
  (.seq (.dreg [⟨[⟨(some 32), .p (.fieldAddr 18), [.tmp 2], none⟩,
    ⟨(some 33), .r (.load none), [.tmp 32], none⟩,
    ⟨(some 35), .p (.fieldAddr 9), [.tmp 2], none⟩,
    ⟨(some 36), .p (.fieldAddr 2), [.tmp 35], none⟩,
    ⟨(some 37), .r (.load none), [.tmp 36], none⟩], [], some ⟨(some 34), .h (.call 6), [.tmp 33], none⟩⟩,
   ⟨[⟨(some 39), .p (.fieldAddr 18), [.tmp 5], none⟩], [⟨(some 37), .r (.load none), [.tmp 36], none⟩], some ⟨(some 38), .h (.call 6), [.tmp 37], none⟩⟩,
   ⟨[], [], some ⟨none, .h (.store 1), [.tmp 39, .tmp 34], none⟩⟩,
   ⟨[⟨(some 40), .p (.fieldAddr 9), [.tmp 5], none⟩,
    ⟨(some 41), .p (.fieldAddr 2), [.tmp 40], none⟩], [], some ⟨none, .h (.store 1), [.tmp 41, .tmp 38], none⟩⟩,
   ⟨[], [], none⟩])
  (.seq (.reg [⟨(some 43), .r (.load (some 21)), [.tmp 5], none⟩,
    ⟨(some 44), .h (.call 7), [.tmp 43], none⟩,
    ⟨(some 42), .p .move, [.tmp 44], none⟩,
    ⟨(some 45), .p (.extract 0), [.tmp 42], none⟩,
    ⟨(some 46), .p (.extract 1), [.tmp 42], none⟩,
    ⟨(some 6), .p .move, [.tmp 45], none⟩,
    ⟨(some 7), .p .move, [.tmp 46], none⟩])
  (.seq (.reg [⟨(some 47), .r (.load (some 21)), [.tmp 2], none⟩,
    ⟨(some 48), .h (.call 8), [.tmp 47], none⟩,
    ⟨(some 8), .p .move, [.tmp 48], none⟩])
  (.seq (.seq (.reg [⟨(some 49), .r (.load (some 21)), [.tmp 5], none⟩,
    ⟨(some 50), .h (.call 9), [.tmp 49], none⟩,
    ⟨(some 51), .p .move, [.tmp 8], none⟩,
    ⟨(some 52), .p (.eq true .bool), [.tmp 50, .tmp 51], none⟩,
    ⟨(some 53), .p .move, [.tmp 52], none⟩,
    ⟨(some 54), .p .move, [.tmp 7], some (53, false)⟩,
    ⟨(some 55), .p .move, [.tmp 8], some (53, false)⟩,
    ⟨(some 56), .p (.eq true .bool), [.tmp 54, .tmp 55], some (53, false)⟩,
    ⟨(some 57), .p .pick, [.tmp 53, .lit (.bool true), .tmp 56], none⟩,
    ⟨(some 58), .p .move, [.tmp 57], none⟩,
    ⟨(some 59), .p .move, [.tmp 7], some (58, false)⟩,
    ⟨(some 60), .p .move, [.tmp 59], some (58, false)⟩,
    ⟨(some 61), .p .move, [.tmp 6], some (60, true)⟩,
    ⟨(some 62), .r (.load (some 21)), [.tmp 2], some (60, true)⟩,
    ⟨(some 63), .h (.call 10), [.tmp 62], some (60, true)⟩,
    ⟨(some 64), .p (.bin .neq), [.tmp 61, .tmp 63], some (60, true)⟩,
    ⟨(some 65), .p .pick, [.tmp 60, .tmp 64, .lit (.bool false)], some (58, false)⟩,
    ⟨(some 66), .p .pick, [.tmp 58, .lit (.bool true), .tmp 65], none⟩,
    ⟨(some 67), .p .move, [.tmp 66], none⟩,
    ⟨(some 68), .p .move, [.tmp 7], some (67, false)⟩,
    ⟨(some 69), .p .not, [.tmp 68], some (67, false)⟩,
    ⟨(some 70), .p .move, [.tmp 69], some (67, false)⟩,
    ⟨(some 71), .p .move, [.tmp 6], some (70, true)⟩,
    ⟨(some 72), .p (.bin .neq), [.tmp 71, .lit (.str [])], some (70, true)⟩,
    ⟨(some 73), .p .pick, [.tmp 70, .tmp 72, .lit (.bool false)], some (67, false)⟩,
    ⟨(some 74), .p .pick, [.tmp 67, .lit (.bool true), .tmp 73], none⟩,
    ⟨(some 75), .p .move, [.tmp 74], none⟩,
    ⟨(some 76), .p (.fieldAddr 18), [.tmp 5], some (75, false)⟩,
    ⟨(some 77), .r (.load none), [.tmp 76], some (75, false)⟩,
    ⟨(some 78), .p (.fieldAddr 18), [.tmp 2], some (75, false)⟩,
    ⟨(some 79), .r (.load none), [.tmp 78], some (75, false)⟩,
    ⟨(some 80), .h (.call 11), [.tmp 77, .tmp 79], some (75, false)⟩,
    ⟨(some 81), .p .not, [.tmp 80], some (75, false)⟩,
    ⟨(some 82), .p .pick, [.tmp 75, .lit (.bool true), .tmp 81], none⟩,
    ⟨(some 83), .p .move, [.tmp 82], none⟩,
    ⟨(some 84), .p (.fieldAddr 9), [.tmp 5], some (83, false)⟩,
    ⟨(some 85), .p (.fieldAddr 2), [.tmp 84], some (83, false)⟩,
    ⟨(some 86), .r (.load none), [.tmp 85], some (83, false)⟩,
    ⟨(some 87), .p (.fieldAddr 9), [.tmp 2], some (83, false)⟩,
    ⟨(some 88), .p (.fieldAddr 2), [.tmp 87], some (83, false)⟩,
    ⟨(some 89), .r (.load none), [.tmp 88], some (83, false)⟩,
    ⟨(some 90), .h (.call 11), [.tmp 86, .tmp 89], some (83, false)⟩,
    ⟨(some 91), .p .not, [.tmp 90], some (83, false)⟩,
    ⟨(some 92), .p .pick, [.tmp 83, .lit (.bool true), .tmp 91], none⟩])
  (.cond (.tmp 92) (.seq (.reg [⟨(some 4), .p .move, [.lit (.bool false)], none⟩])
  .ret)
  .skip))
  (.seq (.reg [⟨(some 93), .p (.build [.nilslice, .nilslice, .nilslice, .nilslice, .nilslice, .nilslice, .nilslice, .nilslice, .nilslice, .nilslice, .nilslice, .nilslice, .nilslice, .nilslice] []), [], none⟩,
    ⟨(some 94), .a .box, [.tmp 93], none⟩,
    ⟨(some 9), .p .move, [.tmp 94], none⟩])
  (.seq (.seq (.reg [⟨(some 95), .p .move, [.tmp 6], none⟩,
    ⟨(some 96), .p .move, [.tmp 1], none⟩,
    ⟨(some 97), .a (.buildSlice 1 2 [(.str [])] [0, 1]), [.tmp 95, .tmp 96], none⟩,
    ⟨(some 98), .p .lenSl, [.tmp 97], none⟩,
    ⟨(some 99), .p .move, [.lit (.int .i64 0)], none⟩])
  (.block 0 (.loop [2, 6, 7, 9, 97, 98, 99] (.seq (.reg [⟨(some 100), .p (.bin .lss), [.tmp 99, .tmp 98], none⟩])
  (.seq (.cond (.tmp 100) .skip
  (.exit 0))
  (.seq (.block 1 (.seq (.reg [⟨(some 101), .p (.indexAddr 1), [.tmp 97, .tmp 99], none⟩,
    ⟨(some 102), .r (.load none), [.tmp 101], none⟩,
    ⟨(some 11), .p .move, [.tmp 102], none⟩])
  (.seq (.reg [⟨(some 104), .p .move, [.tmp 11], none⟩,
    ⟨(some 105), .h (.call 12), [.tmp 104], none⟩,
    ⟨(some 103), .p .move, [.tmp 105], none⟩,
    ⟨(some 106), .p (.extract 0), [.tmp 103], none⟩,
    ⟨(some 107), .p (.extract 1), [.tmp 103], none⟩,
    ⟨(some 12), .a (.alloc [(.int .i64 0), (.int .i64 0), (.int .i64 0), (.int .i64 0), (.int .i64 0), (.str []), (.str []), (.str []), (.int .i64 0), (.int .i64 0), (.str []), .nilslice, (.bool false), (.str []), (.int .i64 0), (.int .u64 0), (.int .u64 0), (.int .i64 0), .nilslice, (.int .i64 0), (.int .i64 0)]), [], none⟩,
    ⟨none, .h (.store 21), [.tmp 12, .tmp 106], none⟩,
    ⟨(some 13), .p .move, [.tmp 107], none⟩])
  (.seq (.reg [⟨(some 109), .p .move, [.tmp 11], none⟩,
    ⟨(some 110), .h (.call 13), [.tmp 109], none⟩,
    ⟨(some 108), .p .move, [.tmp 110], none⟩,
    ⟨(some 111), .p (.extract 0), [.tmp 108], none⟩,
    ⟨(some 112), .p (.extract 1), [.tmp 108], none⟩,
    ⟨(some 14), .a (.alloc [(.int .i64 0), (.int .i64 0), (.int .i64 0), (.int .i64 0), (.int .i64 0), (.str []), (.str []), (.str []), (.int .i64 0), (.int .i64 0), (.str []), .nilslice, (.bool false), (.str []), (.int .i64 0), (.int .u64 0), (.int .u64 0), (.int .i64 0), .nilslice, (.int .i64 0), (.int .i64 0)]), [], none⟩,
    ⟨none, .h (.store 21), [.tmp 14, .tmp 111], none⟩,
    ⟨(some 15), .p .move, [.tmp 112], none⟩])
  (.seq (.reg [⟨(some 113), .p .move, [.tmp 9], none⟩,
    ⟨(some 114), .p (.fieldAddr 18), [.tmp 12], none⟩,
    ⟨(some 115), .r (.load none), [.tmp 114], none⟩,
    ⟨(some 116), .h (.call 14), [.tmp 113, .tmp 115], none⟩])
  (.seq (.reg [⟨(some 117), .p .move, [.tmp 9], none⟩,
    ⟨(some 118), .p (.fieldAddr 9), [.tmp 12], none⟩,
    ⟨(some 119), .p (.fieldAddr 2), [.tmp 118], none⟩,
    ⟨(some 120), .r (.load none), [.tmp 119], none⟩,
    ⟨(some 121), .h (.call 14), [.tmp 117, .tmp 120], none⟩])
  (.seq (.reg [⟨(some 122), .p .move, [.tmp 13], none⟩,
    ⟨(some 123), .p .move, [.tmp 15], none⟩,
    ⟨(some 124), .p (.eq true .bool), [.tmp 122, .tmp 123], none⟩,
    ⟨(some 125), .p .move, [.tmp 124], none⟩,
    ⟨(some 126), .r (.load (some 21)), [.tmp 12], some (125, false)⟩,
    ⟨(some 127), .r (.load (some 21)), [.tmp 14], some (125, false)⟩,
    ⟨(some 128), .h (.call 15), [.tmp 126, .tmp 127], some (125, false)⟩,
    ⟨(some 129), .p .not, [.tmp 128], some (125, false)⟩,
    ⟨(some 130), .p .pick, [.tmp 125, .lit (.bool true), .tmp 129], none⟩,
    ⟨(some 131), .p .move, [.tmp 130], none⟩,
    ⟨(some 132), .p .move, [.tmp 11], some (131, false)⟩,
    ⟨(some 133), .p .move, [.tmp 6], some (131, false)⟩,
    ⟨(some 134), .p (.bin .eql), [.tmp 132, .tmp 133], some (131, false)⟩,
    ⟨(some 135), .p .move, [.tmp 134], some (131, false)⟩,
    ⟨(some 136), .p .move, [.tmp 7], some (135, true)⟩,
    ⟨(some 137), .p .move, [.tmp 13], some (135, true)⟩,
    ⟨(some 138), .p (.eq true .bool), [.tmp 136, .tmp 137], some (135, true)⟩,
    ⟨(some 139), .p .pick, [.tmp 135, .tmp 138, .lit (.bool false)], some (131, false)⟩,
    ⟨(some 140), .p .pick, [.tmp 131, .lit (.bool true), .tmp 139], none⟩,
    ⟨(some 141), .p .move, [.tmp 140], none⟩,
    ⟨(some 142), .p .move, [.tmp 11], some (141, false)⟩,
    ⟨(some 143), .p .move, [.tmp 6], some (141, false)⟩,
    ⟨(some 144), .p (.bin .eql), [.tmp 142, .tmp 143], some (141, false)⟩,
    ⟨(some 145), .p .move, [.tmp 144], some (141, false)⟩,
    ⟨(some 146), .p .move, [.tmp 7], some (145, true)⟩,
    ⟨(some 147), .p .pick, [.tmp 145, .tmp 146, .lit (.bool false)], some (141, false)⟩,
    ⟨(some 148), .p .move, [.tmp 147], some (141, false)⟩,
    ⟨(some 149), .r (.load (some 21)), [.tmp 12], some (148, true)⟩,
    ⟨(some 150), .r (.load (some 21)), [.tmp 2], some (148, true)⟩,
    ⟨(some 151), .h (.call 15), [.tmp 149, .tmp 150], some (148, true)⟩,
    ⟨(some 152), .p .not, [.tmp 151], some (148, true)⟩,
    ⟨(some 153), .p .pick, [.tmp 148, .tmp 152, .lit (.bool false)], some (141, false)⟩,
    ⟨(some 154), .p .pick, [.tmp 141, .lit (.bool true), .tmp 153], none⟩])
  (.cond (.tmp 154) (.seq (.reg [⟨(some 4), .p .move, [.lit (.bool false)], none⟩])
  .ret)
  .skip))))))))
  (.reg [⟨(some 155), .p (.bin .add), [.tmp 99, .lit (.int .i64 1)], none⟩,
    ⟨(some 99), .p .move, [.tmp 155], none⟩])))))))
  (.seq (.reg [⟨(some 156), .a (.buildSlice 1 17 [(.str [])] [0, 1, 2, 3, 4, 5, 6, 7, 8, 9, 10, 11, 12, 13, 14, 15, 16]), [.lit (.str []), .lit (.str [97, 115, 107]), .lit (.str [116, 111, 108, 100]), .lit (.str [108, 111, 97, 100]), .lit (.str [108, 111, 97, 100, 115]), .lit (.str [108, 111, 99, 107]), .lit (.str [108, 111, 99, 107, 101, 100]), .lit (.str [117, 110, 108, 111, 99, 107]), .lit (.str [103, 105, 118, 101]), .lit (.str [103, 97, 118, 101]), .lit (.str [111, 102, 102, 101, 114]), .lit (.str [97, 99, 99, 101, 112, 116]), .lit (.str [99, 104, 117, 110, 107]), .lit (.str [103, 111, 116]), .lit (.str [99, 111, 109, 109, 105, 116]), .lit (.str [100, 111, 110, 101]), .lit (.str [100, 114, 111, 112])], none⟩,
    ⟨(some 16), .p .move, [.tmp 156], none⟩])
  (.seq (.reg [⟨(some 17), .p .move, [.lit (.str [])], none⟩])
  (.seq (.seq (.reg [⟨(some 157), .p (.fieldAddr 0), [.tmp 2], none⟩,
    ⟨(some 158), .r (.load none), [.tmp 157], none⟩,
    ⟨(some 159), .p (.bin .geq), [.tmp 158, .lit (.int .i64 0)], none⟩,
    ⟨(some 160), .p .move, [.tmp 159], none⟩,
    ⟨(some 161), .p (.fieldAddr 0), [.tmp 2], some (160, true)⟩,
    ⟨(some 162), .r (.load none), [.tmp 161], some (160, true)⟩,
    ⟨(some 163), .p .move, [.tmp 16], some (160, true)⟩,
    ⟨(some 164), .p .lenSl, [.tmp 163], some (160, true)⟩,
    ⟨(some 165), .p (.bin .lss), [.tmp 162, .tmp 164], some (160, true)⟩,
    ⟨(some 166), .p .pick, [.tmp 160, .tmp 165, .lit (.bool false)], none⟩])
  (.cond (.tmp 166) (.reg [⟨(some 167), .p .move, [.tmp 16], none⟩,
    ⟨(some 168), .p (.fieldAddr 0), [.tmp 2], none⟩,
    ⟨(some 169), .r (.load none), [.tmp 168], none⟩,
    ⟨(some 170), .p (.indexAddr 1), [.tmp 167, .tmp 169], none⟩,
    ⟨(some 171), .r (.load none), [.tmp 170], none⟩,
    ⟨(some 17), .p .move, [.tmp 171], none⟩])
  .skip))
  (.seq (.reg [⟨(some 172), .p (.fieldAddr 0), [.tmp 2], none⟩,
    ⟨(some 173), .r (.load none), [.tmp 172], none⟩,
    ⟨(some 174), .h (.call 16), [.tmp 173], none⟩,
    ⟨(some 175), .p .move, [.tmp 17], none⟩,
    ⟨(some 176), .p (.bin .eql), [.tmp 174, .tmp 175], none⟩,
    ⟨(some 177), .p .move, [.tmp 176], none⟩,
    ⟨(some 178), .p .move, [.tmp 9], some (177, true)⟩,
    ⟨(some 179), .h (.call 17), [.tmp 178], some (177, true)⟩,
    ⟨(some 180), .p .pick, [.tmp 177, .tmp 179, .lit (.bool false)], none⟩,
    ⟨(some 4), .p .move, [.tmp 180], none⟩])
  .ret))))))))))))), [.tmp 4]⟩
theorem c3 : cFunc Go.Proofs.Tryz.prog false 2 Go.Proofs.Tryz.f3 = some sf3 := by kernel_rfl
def ss3 : List Sh := [(.st [(.int .i64), (.int .i64), (.int .i64), (.int .i64), (.st [(.int .i64), .str, .str, .str, (.int .i64)]), (.st [(.int .i64), .str, (.sl 32 (.st [.str, .str])), .bool, .str, (.int .i64)]), (.st [(.int .u64), (.int .u64)]), (.int .i64), (.sl 32 (.st [.str, .str])), (.int .i64), (.int .i64)]), .str]
theorem cs3 : shsOf Go.Proofs.Tryz.prog 12 Go.Proofs.Tryz.f3.params.toList = some ss3 := by kernel_rfl

/-- rosary/rosarylaw7.Light -/
def sf4 : SFunc := ⟨1, 76, (.seq (.reg [⟨(some 1), .a .box, [.tmp 0], none⟩,
    ⟨(some 2), .p .move, [.lit (.bool false)], none⟩])
  (.seq (.seq (.reg [⟨(some 6), .p (.fieldAddr 18), [.tmp 1], none⟩,
    ⟨(some 7), .r (.load none), [.tmp 6], none⟩,
    ⟨(some 8), .p (.fieldAddr 9), [.tmp 1], none⟩,
    ⟨(some 9), .p (.fieldAddr 2), [.tmp 8], none⟩,
    ⟨(some 10), .r (.load none), [.tmp 9], none⟩,
    ⟨(some 11), .a (.buildSlice 1 2 [.nilslice] [0, 1]), [.tmp 7, .tmp 10], none⟩,
    ⟨(some 12), .p .lenSl, [.tmp 11], none⟩,
    ⟨(some 13), .p .move, [.lit (.int .i64 0)], none⟩])
  (.block 0 (.loop [1, 11, 12, 13] (.seq (.reg [⟨(some 14), .p (.bin .lss), [.tmp 13, .tmp 12], none⟩])
  (.seq (.cond (.tmp 14) .skip
  (.exit 0))
  (.seq (.block 1 (.seq (.reg [⟨(some 15), .p (.indexAddr 1), [.tmp 11, .tmp 13], none⟩,
    ⟨(some 16), .r (.load none), [.tmp 15], none⟩,
    ⟨(some 4), .p .move, [.tmp 16], none⟩])
  (.seq (.seq (.reg [⟨(some 17), .p .move, [.tmp 4], none⟩,
    ⟨(some 18), .p .lenSl, [.tmp 17], none⟩,
    ⟨(some 19), .p (.bin .gtr), [.tmp 18, .lit (.int .i64 60)], none⟩])
  (.cond (.tmp 19) (.seq (.reg [⟨(some 2), .p .move, [.lit (.bool false)], none⟩])
  .ret)
  .skip))
  (.seq (.reg [⟨(some 5), .p .move, [.lit (.int .i64 0)], none⟩])
  (.block 2 (.loop [1, 4, 5, 11, 12, 13] (.seq (.seq (.reg [⟨(some 20), .p .move, [.tmp 5], none⟩,
    ⟨(some 21), .p .move, [.tmp 4], none⟩,
    ⟨(some 22), .p .lenSl, [.tmp 21], none⟩,
    ⟨(some 23), .p (.bin .lss), [.tmp 20, .tmp 22], none⟩])
  (.cond (.tmp 23) .skip
  (.exit 2)))
  (.seq (.block 3 (.seq (.reg [⟨(some 26), .p .move, [.tmp 4], none⟩,
    ⟨(some 27), .p .move, [.tmp 5], none⟩,
    ⟨(some 28), .p (.indexAddr 2), [.tmp 26, .tmp 27], none⟩,
    ⟨(some 29), .p (.fieldAddr 0), [.tmp 28], none⟩,
    ⟨(some 30), .r (.load none), [.tmp 29], none⟩,
    ⟨(some 31), .p .lenStr, [.tmp 30], none⟩,
    ⟨(some 32), .p (.bin .gtr), [.tmp 31, .lit (.int .i64 300)], none⟩,
    ⟨(some 33), .p .move, [.tmp 32], none⟩,
    ⟨(some 34), .p .move, [.tmp 4], some (33, false)⟩,
    ⟨(some 35), .p .move, [.tmp 5], some (33, false)⟩,
    ⟨(some 36), .p (.indexAddr 2), [.tmp 34, .tmp 35], some (33, false)⟩,
    ⟨(some 37), .p (.fieldAddr 1), [.tmp 36], some (33, false)⟩,
    ⟨(some 38), .r (.load none), [.tmp 37], some (33, false)⟩,
    ⟨(some 39), .p .lenStr, [.tmp 38], some (33, false)⟩,
    ⟨(some 40), .p (.bin .gtr), [.tmp 39, .lit (.int .i64 300)], some (33, false)⟩,
    ⟨(some 41), .p .pick, [.tmp 33, .lit (.bool true), .tmp 40], none⟩])
  (.cond (.tmp 41) (.seq (.reg [⟨(some 2), .p .move, [.lit (.bool false)], none⟩])
  .ret)
  .skip)))
  (.reg [⟨(some 24), .p .move, [.tmp 5], none⟩,
    ⟨(some 25), .p (.bin .add), [.tmp 24, .lit (.int .i64 1)], none⟩,
    ⟨(some 5), .p .move, [.tmp 25], none⟩])))))))))
  (.reg [⟨(some 42), .p (.bin .add), [.tmp 13, .lit (.int .i64 1)], none⟩,
    ⟨(some 13), .p .move, [.tmp 42], none⟩])))))))
  (.seq (.reg [⟨(some 43), .p (.fieldAddr 4), [.tmp 1], none⟩,
    ⟨(some 44), .p (.fieldAddr 1), [.tmp 43], none⟩,
    ⟨(some 45), .r (.load none), [.tmp 44], none⟩,
    ⟨(some 46), .p .lenStr, [.tmp 45], none⟩,
    ⟨(some 47), .p (.bin .leq), [.tmp 46, .lit (.int .i64 300)], none⟩,
    ⟨(some 48), .p .move, [.tmp 47], none⟩,
    ⟨(some 49), .p (.fieldAddr 4), [.tmp 1], some (48, true)⟩,
    ⟨(some 50), .p (.fieldAddr 2), [.tmp 49], some (48, true)⟩,
    ⟨(some 51), .r (.load none), [.tmp 50], some (48, true)⟩,
    ⟨(some 52), .p .lenStr, [.tmp 51], some (48, true)⟩,
    ⟨(some 53), .p (.bin .leq), [.tmp 52, .lit (.int .i64 300)], some (48, true)⟩,
    ⟨(some 54), .p .pick, [.tmp 48, .tmp 53, .lit (.bool false)], none⟩,
    ⟨(some 55), .p .move, [.tmp 54], none⟩,
    ⟨(some 56), .p (.fieldAddr 4), [.tmp 1], some (55, true)⟩,
    ⟨(some 57), .p (.fieldAddr 3), [.tmp 56], some (55, true)⟩,
    ⟨(some 58), .r (.load none), [.tmp 57], some (55, true)⟩,
    ⟨(some 59), .p .lenStr, [.tmp 58], some (55, true)⟩,
    ⟨(some 60), .p (.bin .leq), [.tmp 59, .lit (.int .i64 300)], some (55, true)⟩,
    ⟨(some 61), .p .pick, [.tmp 55, .tmp 60, .lit (.bool false)], none⟩,
    ⟨(some 62), .p .move, [.tmp 61], none⟩,
    ⟨(some 63), .p (.fieldAddr 9), [.tmp 1], some (62, true)⟩,
    ⟨(some 64), .p (.fieldAddr 1), [.tmp 63], some (62, true)⟩,
    ⟨(some 65), .r (.load none), [.tmp 64], some (62, true)⟩,
    ⟨(some 66), .p .lenStr, [.tmp 65], some (62, true)⟩,
    ⟨(some 67), .p (.bin .leq), [.tmp 66, .lit (.int .i64 300)], some (62, true)⟩,
    ⟨(some 68), .p .pick, [.tmp 62, .tmp 67, .lit (.bool false)], none⟩,
    ⟨(some 69), .p .move, [.tmp 68], none⟩,
    ⟨(some 70), .p (.fieldAddr 9), [.tmp 1], some (69, true)⟩,
    ⟨(some 71), .p (.fieldAddr 4), [.tmp 70], some (69, true)⟩,
    ⟨(some 72), .r (.load none), [.tmp 71], some (69, true)⟩,
    ⟨(some 73), .p .lenStr, [.tmp 72], some (69, true)⟩,
    ⟨(some 74), .p (.bin .leq), [.tmp 73, .lit (.int .i64 300)], some (69, true)⟩,
    ⟨(some 75), .p .pick, [.tmp 69, .tmp 74, .lit (.bool false)], none⟩,
    ⟨(some 2), .p .move, [.tmp 75], none⟩])
  .ret))), [.tmp 2]⟩
theorem c4 : cFunc Go.Proofs.Tryz.prog false 1 Go.Proofs.Tryz.f4 = some sf4 := by kernel_rfl
def ss4 : List Sh := [(.st [(.int .i64), (.int .i64), (.int .i64), (.int .i64), (.st [(.int .i64), .str, .str, .str, (.int .i64)]), (.st [(.int .i64), .str, (.sl 32 (.st [.str, .str])), .bool, .str, (.int .i64)]), (.st [(.int .u64), (.int .u64)]), (.int .i64), (.sl 32 (.st [.str, .str])), (.int .i64), (.int .i64)])]
theorem cs4 : shsOf Go.Proofs.Tryz.prog 12 Go.Proofs.Tryz.f4.params.toList = some ss4 := by kernel_rfl

/-- rosary/rosarylaw7.alive -/
def sf5 : SFunc := ⟨0, 35, (.seq (.reg [⟨(some 0), .p .move, [.lit (.bool false)], none⟩])
  (.seq (.reg [⟨(some 6), .p (.build [(.int .u64 0), (.int .u64 0)] [(0, 1), (1, 1)]), [.lit (.int .u64 5), .lit (.int .u64 6)], none⟩,
    ⟨(some 7), .p (.build [(.int .i64 0), (.int .i64 0), (.int .i64 0), (.int .i64 0), (.int .i64 0), (.str []), (.str []), (.str []), (.int .i64 0), (.int .i64 0), (.str []), .nilslice, (.bool false), (.str []), (.int .i64 0), (.int .u64 0), (.int .u64 0), (.int .i64 0), .nilslice, (.int .i64 0), (.int .i64 0)] [(0, 1), (1, 1), (2, 1), (3, 1), (19, 1), (15, 2)]), [.lit (.int .i64 10), .lit (.int .i64 1), .lit (.int .i64 2), .lit (.int .i64 3), .lit (.int .i64 4), .tmp 6], none⟩,
    ⟨(some 1), .a (.alloc [(.int .i64 0), (.int .i64 0), (.int .i64 0), (.int .i64 0), (.int .i64 0), (.str []), (.str []), (.str []), (.int .i64 0), (.int .i64 0), (.str []), .nilslice, (.bool false), (.str []), (.int .i64 0), (.int .u64 0), (.int .u64 0), (.int .i64 0), .nilslice, (.int .i64 0), (.int .i64 0)]), [], none⟩,
    ⟨none, .h (.store 21), [.tmp 1, .tmp 7], none⟩])
  (.seq (.reg [⟨(some 9), .r (.load (some 21)), [.tmp 1], none⟩,
    ⟨(some 10), .h (.call 7), [.tmp 9], none⟩,
    ⟨(some 8), .p .move, [.tmp 10], none⟩,
    ⟨(some 11), .p (.extract 0), [.tmp 8], none⟩,
    ⟨(some 12), .p (.extract 1), [.tmp 8], none⟩,
    ⟨(some 2), .p .move, [.tmp 11], none⟩,
    ⟨(some 3), .p .move, [.tmp 12], none⟩])
  (.seq (.reg [⟨(some 14), .p .move, [.tmp 2], none⟩,
    ⟨(some 15), .h (.call 12), [.tmp 14], none⟩,
    ⟨(some 13), .p .move, [.tmp 15], none⟩,
    ⟨(some 16), .p (.extract 0), [.tmp 13], none⟩,
    ⟨(some 17), .p (.extract 1), [.tmp 13], none⟩,
    ⟨(some 4), .a (.alloc [(.int .i64 0), (.int .i64 0), (.int .i64 0), (.int .i64 0), (.int .i64 0), (.str []), (.str []), (.str []), (.int .i64 0), (.int .i64 0), (.str []), .nilslice, (.bool false), (.str []), (.int .i64 0), (.int .u64 0), (.int .u64 0), (.int .i64 0), .nilslice, (.int .i64 0), (.int .i64 0)]), [], none⟩,
    ⟨none, .h (.store 21), [.tmp 4, .tmp 16], none⟩,
    ⟨(some 5), .p .move, [.tmp 17], none⟩])
  (.seq (.reg [⟨(some 18), .p .move, [.tmp 3], none⟩,
    ⟨(some 19), .p .move, [.tmp 18], none⟩,
    ⟨(some 20), .p .move, [.tmp 5], some (19, true)⟩,
    ⟨(some 21), .p .pick, [.tmp 19, .tmp 20, .lit (.bool false)], none⟩,
    ⟨(some 22), .p .move, [.tmp 21], none⟩,
    ⟨(some 23), .r (.load (some 21)), [.tmp 1], some (22, true)⟩,
    ⟨(some 24), .r (.load (some 21)), [.tmp 4], some (22, true)⟩,
    ⟨(some 25), .h (.call 15), [.tmp 23, .tmp 24], some (22, true)⟩,
    ⟨(some 26), .p .pick, [.tmp 22, .tmp 25, .lit (.bool false)], none⟩,
    ⟨(some 27), .p .move, [.tmp 26], none⟩,
    ⟨(some 28), .h (.call 16), [.lit (.int .i64 10)], some (27, true)⟩,
    ⟨(some 29), .p (.bin .eql), [.tmp 28, .lit (.str [111, 102, 102, 101, 114])], some (27, true)⟩,
    ⟨(some 30), .p .pick, [.tmp 27, .tmp 29, .lit (.bool false)], none⟩,
    ⟨(some 31), .p .move, [.tmp 30], none⟩,
    ⟨(some 32), .h (.call 16), [.lit (.int .i64 0)], some (31, true)⟩,
    ⟨(some 33), .p (.bin .eql), [.tmp 32, .lit (.str [])], some (31, true)⟩,
    ⟨(some 34), .p .pick, [.tmp 31, .tmp 33, .lit (.bool false)], none⟩,
    ⟨(some 0), .p .move, [.tmp 34], none⟩])
  .ret))))), [.tmp 0]⟩
theorem c5 : cFunc Go.Proofs.Tryz.prog false 0 Go.Proofs.Tryz.f5 = some sf5 := by kernel_rfl
def ss5 : List Sh := []
theorem cs5 : shsOf Go.Proofs.Tryz.prog 12 Go.Proofs.Tryz.f5.params.toList = some ss5 := by kernel_rfl

/-- rosary/rosarybook.LentItems -/
def sf6 : SFunc := ⟨1, 11, (.seq (.reg [⟨(some 2), .p .move, [.lit .nilslice], none⟩])
  (.seq (.reg [⟨(some 3), .p .move, [.tmp 0], none⟩,
    ⟨(some 4), .h (.call 18), [.tmp 3], none⟩,
    ⟨(some 5), .p (.build [(.str []), (.str [])] [(0, 1)]), [.lit (.str [109, 97, 114, 107])], none⟩,
    ⟨(some 6), .a (.buildSlice 2 1 [(.str []), (.str [])] [0]), [.tmp 5], none⟩,
    ⟨(some 7), .h (.append 2 false), [.tmp 4, .tmp 6], none⟩,
    ⟨(some 8), .p .move, [.tmp 0], none⟩,
    ⟨(some 9), .p .lenSl, [.tmp 8], none⟩,
    ⟨(some 10), .p (.sliceSl 2 false true false), [.tmp 7, .tmp 9], none⟩,
    ⟨(some 2), .p .move, [.tmp 10], none⟩])
  .ret)), [.tmp 2]⟩
theorem c6 : cFunc Go.Proofs.Tryz.prog false 1 Go.Proofs.Tryz.f6 = some sf6 := by kernel_rfl

/-- rosary/letter.Put -/
def sf7 : SFunc := ⟨1, 90, (.seq (.reg [⟨(some 1), .a .box, [.tmp 0], none⟩,
    ⟨(some 2), .p .move, [.lit (.str [])], none⟩,
    ⟨(some 3), .p .move, [.lit (.bool false)], none⟩])
  (.seq (.seq (.reg [⟨(some 6), .r (.load (some 21)), [.tmp 1], none⟩,
    ⟨(some 7), .h (.call 9), [.tmp 6], none⟩,
    ⟨(some 8), .p .not, [.tmp 7], none⟩])
  (.cond (.tmp 8) (.seq (.reg [⟨(some 2), .p .move, [.lit (.str [])], none⟩,
    ⟨(some 3), .p .move, [.lit (.bool false)], none⟩])
  .ret)
  .skip))
  (.seq (.reg [⟨(some 4), .a .newBld, [], none⟩])
  (.seq (.reg [⟨(some 9), .p (.fieldAddr 0), [.tmp 1], none⟩,
    ⟨(some 10), .r (.load none), [.tmp 9], none⟩,
    ⟨(some 11), .p (.fieldAddr 1), [.tmp 1], none⟩,
    ⟨(some 12), .r (.load none), [.tmp 11], none⟩,
    ⟨(some 13), .p (.fieldAddr 2), [.tmp 1], none⟩,
    ⟨(some 14), .r (.load none), [.tmp 13], none⟩,
    ⟨(some 15), .p (.fieldAddr 3), [.tmp 1], none⟩,
    ⟨(some 16), .r (.load none), [.tmp 15], none⟩,
    ⟨(some 17), .p (.fieldAddr 17), [.tmp 1], none⟩,
    ⟨(some 18), .r (.load none), [.tmp 17], none⟩,
    ⟨(some 19), .p (.fieldAddr 19), [.tmp 1], none⟩,
    ⟨(some 20), .r (.load none), [.tmp 19], none⟩,
    ⟨(some 21), .p (.fieldAddr 20), [.tmp 1], none⟩,
    ⟨(some 22), .r (.load none), [.tmp 21], none⟩,
    ⟨(some 23), .a (.buildSlice 1 7 [(.int .i64 0)] [0, 1, 2, 3, 4, 5, 6]), [.tmp 10, .tmp 12, .tmp 14, .tmp 16, .tmp 18, .tmp 20, .tmp 22], none⟩,
    ⟨(some 24), .h (.call 19), [.tmp 4, .tmp 23], none⟩])
  (.seq (.dreg [⟨[⟨(some 25), .p (.fieldAddr 0), [.tmp 4], none⟩,
    ⟨(some 26), .p (.fieldAddr 15), [.tmp 1], none⟩,
    ⟨(some 27), .p (.fieldAddr 0), [.tmp 26], none⟩,
    ⟨(some 28), .r (.load none), [.tmp 27], none⟩,
    ⟨(some 30), .p (.fieldAddr 15), [.tmp 1], none⟩,
    ⟨(some 31), .p (.fieldAddr 1), [.tmp 30], none⟩,
    ⟨(some 32), .r (.load none), [.tmp 31], none⟩], [], some ⟨(some 29), .h (.call 21), [.tmp 28], none⟩⟩,
   ⟨[], [⟨(some 32), .r (.load none), [.tmp 31], none⟩], some ⟨(some 33), .h (.call 21), [.tmp 32], none⟩⟩,
   ⟨[⟨(some 34), .p (.bin .add), [.tmp 29, .tmp 33], none⟩], [], some ⟨(some 35), .h (.call 20), [.tmp 25, .tmp 34], none⟩⟩,
   ⟨[], [], none⟩])
  (.seq (.reg [⟨(some 36), .p (.fieldAddr 18), [.tmp 1], none⟩,
    ⟨(some 37), .r (.load none), [.tmp 36], none⟩,
    ⟨(some 38), .h (.call 22), [.tmp 4, .tmp 37], none⟩])
  (.seq (.reg [⟨(some 39), .p (.fieldAddr 4), [.tmp 1], none⟩,
    ⟨(some 40), .p (.fieldAddr 0), [.tmp 39], none⟩,
    ⟨(some 41), .r (.load none), [.tmp 40], none⟩,
    ⟨(some 42), .a (.buildSlice 1 1 [(.int .i64 0)] [0]), [.tmp 41], none⟩,
    ⟨(some 43), .h (.call 19), [.tmp 4, .tmp 42], none⟩])
  (.seq (.reg [⟨(some 44), .p (.fieldAddr 4), [.tmp 1], none⟩,
    ⟨(some 45), .p (.fieldAddr 1), [.tmp 44], none⟩,
    ⟨(some 46), .r (.load none), [.tmp 45], none⟩,
    ⟨(some 47), .p (.fieldAddr 4), [.tmp 1], none⟩,
    ⟨(some 48), .p (.fieldAddr 2), [.tmp 47], none⟩,
    ⟨(some 49), .r (.load none), [.tmp 48], none⟩,
    ⟨(some 50), .p (.fieldAddr 4), [.tmp 1], none⟩,
    ⟨(some 51), .p (.fieldAddr 3), [.tmp 50], none⟩,
    ⟨(some 52), .r (.load none), [.tmp 51], none⟩,
    ⟨(some 53), .a (.buildSlice 1 3 [(.str [])] [0, 1, 2]), [.tmp 46, .tmp 49, .tmp 52], none⟩,
    ⟨(some 54), .h (.call 23), [.tmp 4, .tmp 53], none⟩])
  (.seq (.reg [⟨(some 55), .p (.fieldAddr 4), [.tmp 1], none⟩,
    ⟨(some 56), .p (.fieldAddr 4), [.tmp 55], none⟩,
    ⟨(some 57), .r (.load none), [.tmp 56], none⟩,
    ⟨(some 58), .p (.fieldAddr 9), [.tmp 1], none⟩,
    ⟨(some 59), .p (.fieldAddr 0), [.tmp 58], none⟩,
    ⟨(some 60), .r (.load none), [.tmp 59], none⟩,
    ⟨(some 61), .a (.buildSlice 1 2 [(.int .i64 0)] [0, 1]), [.tmp 57, .tmp 60], none⟩,
    ⟨(some 62), .h (.call 19), [.tmp 4, .tmp 61], none⟩])
  (.seq (.reg [⟨(some 63), .p (.fieldAddr 9), [.tmp 1], none⟩,
    ⟨(some 64), .p (.fieldAddr 1), [.tmp 63], none⟩,
    ⟨(some 65), .r (.load none), [.tmp 64], none⟩,
    ⟨(some 66), .a (.buildSlice 1 1 [(.str [])] [0]), [.tmp 65], none⟩,
    ⟨(some 67), .h (.call 23), [.tmp 4, .tmp 66], none⟩])
  (.seq (.reg [⟨(some 68), .p (.fieldAddr 9), [.tmp 1], none⟩,
    ⟨(some 69), .p (.fieldAddr 2), [.tmp 68], none⟩,
    ⟨(some 70), .r (.load none), [.tmp 69], none⟩,
    ⟨(some 71), .h (.call 22), [.tmp 4, .tmp 70], none⟩])
  (.seq (.reg [⟨(some 5), .p .move, [.lit (.int .i64 0)], none⟩])
  (.seq (.seq (.reg [⟨(some 72), .p (.fieldAddr 9), [.tmp 1], none⟩,
    ⟨(some 73), .p (.fieldAddr 3), [.tmp 72], none⟩,
    ⟨(some 74), .r (.load none), [.tmp 73], none⟩])
  (.cond (.tmp 74) (.reg [⟨(some 5), .p .move, [.lit (.int .i64 1)], none⟩])
  .skip))
  (.seq (.reg [⟨(some 75), .p .move, [.tmp 5], none⟩,
    ⟨(some 76), .a (.buildSlice 1 1 [(.int .i64 0)] [0]), [.tmp 75], none⟩,
    ⟨(some 77), .h (.call 19), [.tmp 4, .tmp 76], none⟩])
  (.seq (.reg [⟨(some 78), .p (.fieldAddr 9), [.tmp 1], none⟩,
    ⟨(some 79), .p (.fieldAddr 4), [.tmp 78], none⟩,
    ⟨(some 80), .r (.load none), [.tmp 79], none⟩,
    ⟨(some 81), .a (.buildSlice 1 1 [(.str [])] [0]), [.tmp 80], none⟩,
    ⟨(some 82), .h (.call 23), [.tmp 4, .tmp 81], none⟩])
  (.seq (.reg [⟨(some 83), .p (.fieldAddr 9), [.tmp 1], none⟩,
    ⟨(some 84), .p (.fieldAddr 5), [.tmp 83], none⟩,
    ⟨(some 85), .r (.load none), [.tmp 84], none⟩,
    ⟨(some 86), .a (.buildSlice 1 1 [(.int .i64 0)] [0]), [.tmp 85], none⟩,
    ⟨(some 87), .h (.call 19), [.tmp 4, .tmp 86], none⟩])
  (.seq (.reg [⟨(some 88), .p (.fieldAddr 0), [.tmp 4], none⟩,
    ⟨(some 89), .h (.call 24), [.tmp 88], none⟩,
    ⟨(some 2), .p .move, [.tmp 89], none⟩,
    ⟨(some 3), .p .move, [.lit (.bool true)], none⟩])
  .ret))))))))))))))))), [.tmp 2, .tmp 3]⟩
theorem c7 : cFunc Go.Proofs.Tryz.prog false 1 Go.Proofs.Tryz.f7 = some sf7 := by kernel_rfl

/-- rosary/rosaryref1.Letter -/
def sf8 : SFunc := ⟨1, 117, (.seq (.reg [⟨(some 1), .a .box, [.tmp 0], none⟩,
    ⟨(some 2), .p .move, [.lit (.bool false)], none⟩])
  (.seq (.seq (.reg [⟨(some 5), .p (.fieldAddr 0), [.tmp 1], none⟩,
    ⟨(some 6), .r (.load none), [.tmp 5], none⟩,
    ⟨(some 7), .p (.bin .lss), [.tmp 6, .lit (.int .i64 1)], none⟩,
    ⟨(some 8), .p .move, [.tmp 7], none⟩,
    ⟨(some 9), .p (.fieldAddr 0), [.tmp 1], some (8, false)⟩,
    ⟨(some 10), .r (.load none), [.tmp 9], some (8, false)⟩,
    ⟨(some 11), .p (.bin .gtr), [.tmp 10, .lit (.int .i64 16)], some (8, false)⟩,
    ⟨(some 12), .p .pick, [.tmp 8, .lit (.bool true), .tmp 11], none⟩,
    ⟨(some 13), .p .move, [.tmp 12], none⟩,
    ⟨(some 14), .p (.fieldAddr 1), [.tmp 1], some (13, false)⟩,
    ⟨(some 15), .r (.load none), [.tmp 14], some (13, false)⟩,
    ⟨(some 16), .h (.call 25), [.tmp 15], some (13, false)⟩,
    ⟨(some 17), .p .not, [.tmp 16], some (13, false)⟩,
    ⟨(some 18), .p .pick, [.tmp 13, .lit (.bool true), .tmp 17], none⟩,
    ⟨(some 19), .p .move, [.tmp 18], none⟩,
    ⟨(some 20), .p (.fieldAddr 2), [.tmp 1], some (19, false)⟩,
    ⟨(some 21), .r (.load none), [.tmp 20], some (19, false)⟩,
    ⟨(some 22), .h (.call 25), [.tmp 21], some (19, false)⟩,
    ⟨(some 23), .p .not, [.tmp 22], some (19, false)⟩,
    ⟨(some 24), .p .pick, [.tmp 19, .lit (.bool true), .tmp 23], none⟩,
    ⟨(some 25), .p .move, [.tmp 24], none⟩,
    ⟨(some 26), .p (.fieldAddr 20), [.tmp 1], some (25, false)⟩,
    ⟨(some 27), .r (.load none), [.tmp 26], some (25, false)⟩,
    ⟨(some 28), .h (.call 25), [.tmp 27], some (25, false)⟩,
    ⟨(some 29), .p .not, [.tmp 28], some (25, false)⟩,
    ⟨(some 30), .p .pick, [.tmp 25, .lit (.bool true), .tmp 29], none⟩,
    ⟨(some 31), .p .move, [.tmp 30], none⟩,
    ⟨(some 32), .p (.fieldAddr 3), [.tmp 1], some (31, false)⟩,
    ⟨(some 33), .r (.load none), [.tmp 32], some (31, false)⟩,
    ⟨(some 34), .h (.call 26), [.tmp 33], some (31, false)⟩,
    ⟨(some 35), .p .not, [.tmp 34], some (31, false)⟩,
    ⟨(some 36), .p .pick, [.tmp 31, .lit (.bool true), .tmp 35], none⟩,
    ⟨(some 37), .p .move, [.tmp 36], none⟩,
    ⟨(some 38), .p (.fieldAddr 17), [.tmp 1], some (37, false)⟩,
    ⟨(some 39), .r (.load none), [.tmp 38], some (37, false)⟩,
    ⟨(some 40), .h (.call 26), [.tmp 39], some (37, false)⟩,
    ⟨(some 41), .p .not, [.tmp 40], some (37, false)⟩,
    ⟨(some 42), .p .pick, [.tmp 37, .lit (.bool true), .tmp 41], none⟩,
    ⟨(some 43), .p .move, [.tmp 42], none⟩,
    ⟨(some 44), .p (.fieldAddr 19), [.tmp 1], some (43, false)⟩,
    ⟨(some 45), .r (.load none), [.tmp 44], some (43, false)⟩,
    ⟨(some 46), .h (.call 26), [.tmp 45], some (43, false)⟩,
    ⟨(some 47), .p .not, [.tmp 46], some (43, false)⟩,
    ⟨(some 48), .p .pick, [.tmp 43, .lit (.bool true), .tmp 47], none⟩,
    ⟨(some 49), .p .move, [.tmp 48], none⟩,
    ⟨(some 50), .p (.fieldAddr 18), [.tmp 1], some (49, false)⟩,
    ⟨(some 51), .r (.load none), [.tmp 50], some (49, false)⟩,
    ⟨(some 52), .h (.call 27), [.tmp 51], some (49, false)⟩,
    ⟨(some 53), .p .not, [.tmp 52], some (49, false)⟩,
    ⟨(some 54), .p .pick, [.tmp 49, .lit (.bool true), .tmp 53], none⟩])
  (.cond (.tmp 54) (.seq (.reg [⟨(some 2), .p .move, [.lit (.bool false)], none⟩])
  .ret)
  .skip))
  (.seq (.dreg [⟨[⟨(some 55), .p (.fieldAddr 4), [.tmp 1], none⟩,
    ⟨(some 56), .r (.load (some 5)), [.tmp 55], none⟩,
    ⟨(some 57), .p (.fieldAddr 9), [.tmp 1], none⟩,
    ⟨(some 58), .r (.load (some 6)), [.tmp 57], none⟩,
    ⟨(some 3), .a (.alloc [(.int .i64 0), (.str []), (.str []), (.str []), (.int .i64 0)]), [], none⟩,
    ⟨(some 4), .a (.alloc [(.int .i64 0), (.str []), .nilslice, (.bool false), (.str []), (.int .i64 0)]), [], none⟩], [], some ⟨none, .h (.store 5), [.tmp 3, .tmp 56], none⟩⟩,
   ⟨[], [⟨(some 58), .r (.load (some 6)), [.tmp 57], none⟩], some ⟨none, .h (.store 6), [.tmp 4, .tmp 58], none⟩⟩,
   ⟨[], [], none⟩])
  (.seq (.seq (.reg [⟨(some 59), .p (.fieldAddr 0), [.tmp 3], none⟩,
    ⟨(some 60), .r (.load none), [.tmp 59], none⟩,
    ⟨(some 61), .h (.call 25), [.tmp 60], none⟩,
    ⟨(some 62), .p .not, [.tmp 61], none⟩,
    ⟨(some 63), .p .move, [.tmp 62], none⟩,
    ⟨(some 64), .p (.fieldAddr 1), [.tmp 3], some (63, false)⟩,
    ⟨(some 65), .r (.load none), [.tmp 64], some (63, false)⟩,
    ⟨(some 66), .p .lenStr, [.tmp 65], some (63, false)⟩,
    ⟨(some 67), .p (.bin .gtr), [.tmp 66, .lit (.int .i64 255)], some (63, false)⟩,
    ⟨(some 68), .p .pick, [.tmp 63, .lit (.bool true), .tmp 67], none⟩,
    ⟨(some 69), .p .move, [.tmp 68], none⟩,
    ⟨(some 70), .p (.fieldAddr 2), [.tmp 3], some (69, false)⟩,
    ⟨(some 71), .r (.load none), [.tmp 70], some (69, false)⟩,
    ⟨(some 72), .p .lenStr, [.tmp 71], some (69, false)⟩,
    ⟨(some 73), .p (.bin .gtr), [.tmp 72, .lit (.int .i64 255)], some (69, false)⟩,
    ⟨(some 74), .p .pick, [.tmp 69, .lit (.bool true), .tmp 73], none⟩,
    ⟨(some 75), .p .move, [.tmp 74], none⟩,
    ⟨(some 76), .p (.fieldAddr 3), [.tmp 3], some (75, false)⟩,
    ⟨(some 77), .r (.load none), [.tmp 76], some (75, false)⟩,
    ⟨(some 78), .p .lenStr, [.tmp 77], some (75, false)⟩,
    ⟨(some 79), .p (.bin .gtr), [.tmp 78, .lit (.int .i64 255)], some (75, false)⟩,
    ⟨(some 80), .p .pick, [.tmp 75, .lit (.bool true), .tmp 79], none⟩,
    ⟨(some 81), .p .move, [.tmp 80], none⟩,
    ⟨(some 82), .p (.fieldAddr 4), [.tmp 3], some (81, false)⟩,
    ⟨(some 83), .r (.load none), [.tmp 82], some (81, false)⟩,
    ⟨(some 84), .h (.call 26), [.tmp 83], some (81, false)⟩,
    ⟨(some 85), .p .not, [.tmp 84], some (81, false)⟩,
    ⟨(some 86), .p .pick, [.tmp 81, .lit (.bool true), .tmp 85], none⟩])
  (.cond (.tmp 86) (.seq (.reg [⟨(some 2), .p .move, [.lit (.bool false)], none⟩])
  .ret)
  .skip))
  (.seq (.reg [⟨(some 87), .p (.fieldAddr 0), [.tmp 4], none⟩,
    ⟨(some 88), .r (.load none), [.tmp 87], none⟩,
    ⟨(some 89), .p (.bin .geq), [.tmp 88, .lit (.int .i64 0)], none⟩,
    ⟨(some 90), .p .move, [.tmp 89], none⟩,
    ⟨(some 91), .p (.fieldAddr 0), [.tmp 4], some (90, true)⟩,
    ⟨(some 92), .r (.load none), [.tmp 91], some (90, true)⟩,
    ⟨(some 93), .p (.bin .leq), [.tmp 92, .lit (.int .i64 255)], some (90, true)⟩,
    ⟨(some 94), .p .pick, [.tmp 90, .tmp 93, .lit (.bool false)], none⟩,
    ⟨(some 95), .p .move, [.tmp 94], none⟩,
    ⟨(some 96), .p (.fieldAddr 1), [.tmp 4], some (95, true)⟩,
    ⟨(some 97), .r (.load none), [.tmp 96], some (95, true)⟩,
    ⟨(some 98), .p .lenStr, [.tmp 97], some (95, true)⟩,
    ⟨(some 99), .p (.bin .leq), [.tmp 98, .lit (.int .i64 255)], some (95, true)⟩,
    ⟨(some 100), .p .pick, [.tmp 95, .tmp 99, .lit (.bool false)], none⟩,
    ⟨(some 101), .p .move, [.tmp 100], none⟩,
    ⟨(some 102), .p (.fieldAddr 4), [.tmp 4], some (101, true)⟩,
    ⟨(some 103), .r (.load none), [.tmp 102], some (101, true)⟩,
    ⟨(some 104), .p .lenStr, [.tmp 103], some (101, true)⟩,
    ⟨(some 105), .p (.bin .leq), [.tmp 104, .lit (.int .i64 255)], some (101, true)⟩,
    ⟨(some 106), .p .pick, [.tmp 101, .tmp 105, .lit (.bool false)], none⟩,
    ⟨(some 107), .p .move, [.tmp 106], none⟩,
    ⟨(some 108), .p (.fieldAddr 2), [.tmp 4], some (107, true)⟩,
    ⟨(some 109), .r (.load none), [.tmp 108], some (107, true)⟩,
    ⟨(some 110), .h (.call 27), [.tmp 109], some (107, true)⟩,
    ⟨(some 111), .p .pick, [.tmp 107, .tmp 110, .lit (.bool false)], none⟩,
    ⟨(some 112), .p .move, [.tmp 111], none⟩,
    ⟨(some 113), .p (.fieldAddr 5), [.tmp 4], some (112, true)⟩,
    ⟨(some 114), .r (.load none), [.tmp 113], some (112, true)⟩,
    ⟨(some 115), .h (.call 25), [.tmp 114], some (112, true)⟩,
    ⟨(some 116), .p .pick, [.tmp 112, .tmp 115, .lit (.bool false)], none⟩,
    ⟨(some 2), .p .move, [.tmp 116], none⟩])
  .ret))))), [.tmp 2]⟩
theorem c8 : cFunc Go.Proofs.Tryz.prog false 1 Go.Proofs.Tryz.f8 = some sf8 := by kernel_rfl

/-- rosary/letter.Right -/
def sf9 : SFunc := ⟨1, 72, (.seq (.reg [⟨(some 1), .a .box, [.tmp 0], none⟩,
    ⟨(some 2), .p .move, [.lit (.bool false)], none⟩])
  (.seq (.block 0 (.seq (.reg [⟨(some 4), .p (.fieldAddr 0), [.tmp 1], none⟩,
    ⟨(some 5), .r (.load none), [.tmp 4], none⟩,
    ⟨(some 6), .p (.bin .lss), [.tmp 5, .lit (.int .i64 1)], none⟩,
    ⟨(some 7), .p .move, [.tmp 6], none⟩,
    ⟨(some 8), .p (.fieldAddr 0), [.tmp 1], some (7, false)⟩,
    ⟨(some 9), .r (.load none), [.tmp 8], some (7, false)⟩,
    ⟨(some 10), .p (.bin .gtr), [.tmp 9, .lit (.int .i64 16)], some (7, false)⟩,
    ⟨(some 11), .p .pick, [.tmp 7, .lit (.bool true), .tmp 10], none⟩,
    ⟨(some 3), .p .move, [.tmp 11], none⟩])
  (.cond (.tmp 3) (.seq (.reg [⟨(some 2), .p .move, [.lit (.bool false)], none⟩])
  .ret)
  (.seq (.reg [⟨(some 13), .p (.fieldAddr 1), [.tmp 1], none⟩,
    ⟨(some 14), .r (.load none), [.tmp 13], none⟩,
    ⟨(some 15), .p (.fieldAddr 2), [.tmp 1], none⟩,
    ⟨(some 16), .r (.load none), [.tmp 15], none⟩,
    ⟨(some 17), .p (.fieldAddr 20), [.tmp 1], none⟩,
    ⟨(some 18), .r (.load none), [.tmp 17], none⟩,
    ⟨(some 19), .p (.fieldAddr 4), [.tmp 1], none⟩,
    ⟨(some 20), .p (.fieldAddr 0), [.tmp 19], none⟩,
    ⟨(some 21), .r (.load none), [.tmp 20], none⟩,
    ⟨(some 22), .p (.fieldAddr 9), [.tmp 1], none⟩,
    ⟨(some 23), .p (.fieldAddr 0), [.tmp 22], none⟩,
    ⟨(some 24), .r (.load none), [.tmp 23], none⟩,
    ⟨(some 25), .p (.fieldAddr 9), [.tmp 1], none⟩,
    ⟨(some 26), .p (.fieldAddr 5), [.tmp 25], none⟩,
    ⟨(some 27), .r (.load none), [.tmp 26], none⟩,
    ⟨(some 28), .a (.buildSlice 1 6 [(.int .i64 0)] [0, 1, 2, 3, 4, 5]), [.tmp 14, .tmp 16, .tmp 18, .tmp 21, .tmp 24, .tmp 27], none⟩,
    ⟨(some 29), .h (.call 28), [.tmp 28], none⟩,
    ⟨(some 30), .p .not, [.tmp 29], none⟩,
    ⟨(some 12), .p .move, [.tmp 30], none⟩])
  (.cond (.tmp 12) (.seq (.reg [⟨(some 2), .p .move, [.lit (.bool false)], none⟩])
  .ret)
  (.seq (.reg [⟨(some 32), .p (.fieldAddr 3), [.tmp 1], none⟩,
    ⟨(some 33), .r (.load none), [.tmp 32], none⟩,
    ⟨(some 34), .p (.fieldAddr 17), [.tmp 1], none⟩,
    ⟨(some 35), .r (.load none), [.tmp 34], none⟩,
    ⟨(some 36), .p (.fieldAddr 19), [.tmp 1], none⟩,
    ⟨(some 37), .r (.load none), [.tmp 36], none⟩,
    ⟨(some 38), .p (.fieldAddr 4), [.tmp 1], none⟩,
    ⟨(some 39), .p (.fieldAddr 4), [.tmp 38], none⟩,
    ⟨(some 40), .r (.load none), [.tmp 39], none⟩,
    ⟨(some 41), .a (.buildSlice 1 4 [(.int .i64 0)] [0, 1, 2, 3]), [.tmp 33, .tmp 35, .tmp 37, .tmp 40], none⟩,
    ⟨(some 42), .h (.call 29), [.tmp 41], none⟩,
    ⟨(some 43), .p .not, [.tmp 42], none⟩,
    ⟨(some 31), .p .move, [.tmp 43], none⟩])
  (.cond (.tmp 31) (.seq (.reg [⟨(some 2), .p .move, [.lit (.bool false)], none⟩])
  .ret)
  (.seq (.reg [⟨(some 45), .p (.fieldAddr 4), [.tmp 1], none⟩,
    ⟨(some 46), .p (.fieldAddr 1), [.tmp 45], none⟩,
    ⟨(some 47), .r (.load none), [.tmp 46], none⟩,
    ⟨(some 48), .p (.fieldAddr 4), [.tmp 1], none⟩,
    ⟨(some 49), .p (.fieldAddr 2), [.tmp 48], none⟩,
    ⟨(some 50), .r (.load none), [.tmp 49], none⟩,
    ⟨(some 51), .p (.fieldAddr 4), [.tmp 1], none⟩,
    ⟨(some 52), .p (.fieldAddr 3), [.tmp 51], none⟩,
    ⟨(some 53), .r (.load none), [.tmp 52], none⟩,
    ⟨(some 54), .p (.fieldAddr 9), [.tmp 1], none⟩,
    ⟨(some 55), .p (.fieldAddr 1), [.tmp 54], none⟩,
    ⟨(some 56), .r (.load none), [.tmp 55], none⟩,
    ⟨(some 57), .p (.fieldAddr 9), [.tmp 1], none⟩,
    ⟨(some 58), .p (.fieldAddr 4), [.tmp 57], none⟩,
    ⟨(some 59), .r (.load none), [.tmp 58], none⟩,
    ⟨(some 60), .a (.buildSlice 1 5 [(.str [])] [0, 1, 2, 3, 4]), [.tmp 47, .tmp 50, .tmp 53, .tmp 56, .tmp 59], none⟩,
    ⟨(some 61), .h (.call 30), [.tmp 60], none⟩,
    ⟨(some 62), .p .not, [.tmp 61], none⟩,
    ⟨(some 44), .p .move, [.tmp 62], none⟩])
  (.cond (.tmp 44) (.seq (.reg [⟨(some 2), .p .move, [.lit (.bool false)], none⟩])
  .ret)
  .skip)))))))))
  (.seq (.reg [⟨(some 63), .p (.fieldAddr 18), [.tmp 1], none⟩,
    ⟨(some 64), .r (.load none), [.tmp 63], none⟩,
    ⟨(some 65), .h (.call 31), [.tmp 64], none⟩,
    ⟨(some 66), .p .move, [.tmp 65], none⟩,
    ⟨(some 67), .p (.fieldAddr 9), [.tmp 1], some (66, true)⟩,
    ⟨(some 68), .p (.fieldAddr 2), [.tmp 67], some (66, true)⟩,
    ⟨(some 69), .r (.load none), [.tmp 68], some (66, true)⟩,
    ⟨(some 70), .h (.call 31), [.tmp 69], some (66, true)⟩,
    ⟨(some 71), .p .pick, [.tmp 66, .tmp 70, .lit (.bool false)], none⟩,
    ⟨(some 2), .p .move, [.tmp 71], none⟩])
  .ret))), [.tmp 2]⟩
theorem c9 : cFunc Go.Proofs.Tryz.prog false 1 Go.Proofs.Tryz.f9 = some sf9 := by kernel_rfl

/-- rosary/rosaryref1.Put -/
def sf10 : SFunc := ⟨1, 103, (.seq (.reg [⟨(some 1), .a .box, [.tmp 0], none⟩,
    ⟨(some 2), .p .move, [.lit (.str [])], none⟩])
  (.seq (.dreg [⟨[⟨(some 4), .p (.fieldAddr 0), [.tmp 1], none⟩,
    ⟨(some 5), .r (.load none), [.tmp 4], none⟩,
    ⟨(some 7), .p (.fieldAddr 1), [.tmp 1], none⟩,
    ⟨(some 8), .r (.load none), [.tmp 7], none⟩,
    ⟨(some 11), .p (.fieldAddr 2), [.tmp 1], none⟩,
    ⟨(some 12), .r (.load none), [.tmp 11], none⟩,
    ⟨(some 15), .p (.fieldAddr 3), [.tmp 1], none⟩,
    ⟨(some 16), .r (.load none), [.tmp 15], none⟩,
    ⟨(some 19), .p (.fieldAddr 17), [.tmp 1], none⟩,
    ⟨(some 20), .r (.load none), [.tmp 19], none⟩,
    ⟨(some 23), .p (.fieldAddr 19), [.tmp 1], none⟩,
    ⟨(some 24), .r (.load none), [.tmp 23], none⟩,
    ⟨(some 27), .p (.fieldAddr 20), [.tmp 1], none⟩,
    ⟨(some 28), .r (.load none), [.tmp 27], none⟩,
    ⟨(some 31), .p (.fieldAddr 15), [.tmp 1], none⟩,
    ⟨(some 32), .p (.fieldAddr 0), [.tmp 31], none⟩,
    ⟨(some 33), .r (.load none), [.tmp 32], none⟩,
    ⟨(some 36), .p (.fieldAddr 15), [.tmp 1], none⟩,
    ⟨(some 37), .p (.fieldAddr 1), [.tmp 36], none⟩,
    ⟨(some 38), .r (.load none), [.tmp 37], none⟩,
    ⟨(some 41), .p (.fieldAddr 18), [.tmp 1], none⟩,
    ⟨(some 42), .r (.load none), [.tmp 41], none⟩], [], some ⟨(some 6), .h (.call 32), [.tmp 5], none⟩⟩,
   ⟨[], [⟨(some 8), .r (.load none), [.tmp 7], none⟩,
    ⟨(some 12), .r (.load none), [.tmp 11], none⟩,
    ⟨(some 16), .r (.load none), [.tmp 15], none⟩,
    ⟨(some 20), .r (.load none), [.tmp 19], none⟩,
    ⟨(some 24), .r (.load none), [.tmp 23], none⟩,
    ⟨(some 28), .r (.load none), [.tmp 27], none⟩,
    ⟨(some 33), .r (.load none), [.tmp 32], none⟩,
    ⟨(some 38), .r (.load none), [.tmp 37], none⟩,
    ⟨(some 42), .r (.load none), [.tmp 41], none⟩], some ⟨(some 9), .h (.call 32), [.tmp 8], none⟩⟩,
   ⟨[⟨(some 10), .p (.bin .add), [.tmp 6, .tmp 9], none⟩], [⟨(some 12), .r (.load none), [.tmp 11], none⟩,
    ⟨(some 16), .r (.load none), [.tmp 15], none⟩,
    ⟨(some 20), .r (.load none), [.tmp 19], none⟩,
    ⟨(some 24), .r (.load none), [.tmp 23], none⟩,
    ⟨(some 28), .r (.load none), [.tmp 27], none⟩,
    ⟨(some 33), .r (.load none), [.tmp 32], none⟩,
    ⟨(some 38), .r (.load none), [.tmp 37], none⟩,
    ⟨(some 42), .r (.load none), [.tmp 41], none⟩], some ⟨(some 13), .h (.call 32), [.tmp 12], none⟩⟩,
   ⟨[⟨(some 14), .p (.bin .add), [.tmp 10, .tmp 13], none⟩], [⟨(some 16), .r (.load none), [.tmp 15], none⟩,
    ⟨(some 20), .r (.load none), [.tmp 19], none⟩,
    ⟨(some 24), .r (.load none), [.tmp 23], none⟩,
    ⟨(some 28), .r (.load none), [.tmp 27], none⟩,
    ⟨(some 33), .r (.load none), [.tmp 32], none⟩,
    ⟨(some 38), .r (.load none), [.tmp 37], none⟩,
    ⟨(some 42), .r (.load none), [.tmp 41], none⟩], some ⟨(some 17), .h (.call 32), [.tmp 16], none⟩⟩,
   ⟨[⟨(some 18), .p (.bin .add), [.tmp 14, .tmp 17], none⟩], [⟨(some 20), .r (.load none), [.tmp 19], none⟩,
    ⟨(some 24), .r (.load none), [.tmp 23], none⟩,
    ⟨(some 28), .r (.load none), [.tmp 27], none⟩,
    ⟨(some 33), .r (.load none), [.tmp 32], none⟩,
    ⟨(some 38), .r (.load none), [.tmp 37], none⟩,
    ⟨(some 42), .r (.load none), [.tmp 41], none⟩], some ⟨(some 21), .h (.call 32), [.tmp 20], none⟩⟩,
   ⟨[⟨(some 22), .p (.bin .add), [.tmp 18, .tmp 21], none⟩], [⟨(some 24), .r (.load none), [.tmp 23], none⟩,
    ⟨(some 28), .r (.load none), [.tmp 27], none⟩,
    ⟨(some 33), .r (.load none), [.tmp 32], none⟩,
    ⟨(some 38), .r (.load none), [.tmp 37], none⟩,
    ⟨(some 42), .r (.load none), [.tmp 41], none⟩], some ⟨(some 25), .h (.call 32), [.tmp 24], none⟩⟩,
   ⟨[⟨(some 26), .p (.bin .add), [.tmp 22, .tmp 25], none⟩], [⟨(some 28), .r (.load none), [.tmp 27], none⟩,
    ⟨(some 33), .r (.load none), [.tmp 32], none⟩,
    ⟨(some 38), .r (.load none), [.tmp 37], none⟩,
    ⟨(some 42), .r (.load none), [.tmp 41], none⟩], some ⟨(some 29), .h (.call 32), [.tmp 28], none⟩⟩,
   ⟨[⟨(some 30), .p (.bin .add), [.tmp 26, .tmp 29], none⟩], [⟨(some 33), .r (.load none), [.tmp 32], none⟩,
    ⟨(some 38), .r (.load none), [.tmp 37], none⟩,
    ⟨(some 42), .r (.load none), [.tmp 41], none⟩], some ⟨(some 34), .h (.call 33), [.tmp 33], none⟩⟩,
   ⟨[⟨(some 35), .p (.bin .add), [.tmp 30, .tmp 34], none⟩], [⟨(some 38), .r (.load none), [.tmp 37], none⟩,
    ⟨(some 42), .r (.load none), [.tmp 41], none⟩], some ⟨(some 39), .h (.call 33), [.tmp 38], none⟩⟩,
   ⟨[⟨(some 40), .p (.bin .add), [.tmp 35, .tmp 39], none⟩], [⟨(some 42), .r (.load none), [.tmp 41], none⟩], some ⟨(some 43), .h (.call 34), [.tmp 42], none⟩⟩,
   ⟨[⟨(some 44), .p (.bin .add), [.tmp 40, .tmp 43], none⟩,
    ⟨(some 3), .p .move, [.tmp 44], none⟩], [], none⟩])
  (.seq (.dreg [⟨[⟨(some 45), .p .move, [.tmp 3], none⟩,
    ⟨(some 46), .p (.fieldAddr 4), [.tmp 1], none⟩,
    ⟨(some 47), .p (.fieldAddr 0), [.tmp 46], none⟩,
    ⟨(some 48), .r (.load none), [.tmp 47], none⟩,
    ⟨(some 51), .p (.fieldAddr 4), [.tmp 1], none⟩,
    ⟨(some 52), .p (.fieldAddr 1), [.tmp 51], none⟩,
    ⟨(some 53), .r (.load none), [.tmp 52], none⟩,
    ⟨(some 56), .p (.fieldAddr 4), [.tmp 1], none⟩,
    ⟨(some 57), .p (.fieldAddr 2), [.tmp 56], none⟩,
    ⟨(some 58), .r (.load none), [.tmp 57], none⟩,
    ⟨(some 61), .p (.fieldAddr 4), [.tmp 1], none⟩,
    ⟨(some 62), .p (.fieldAddr 3), [.tmp 61], none⟩,
    ⟨(some 63), .r (.load none), [.tmp 62], none⟩,
    ⟨(some 66), .p (.fieldAddr 4), [.tmp 1], none⟩,
    ⟨(some 67), .p (.fieldAddr 4), [.tmp 66], none⟩,
    ⟨(some 68), .r (.load none), [.tmp 67], none⟩], [], some ⟨(some 49), .h (.call 32), [.tmp 48], none⟩⟩,
   ⟨[⟨(some 50), .p (.bin .add), [.tmp 45, .tmp 49], none⟩], [⟨(some 53), .r (.load none), [.tmp 52], none⟩,
    ⟨(some 58), .r (.load none), [.tmp 57], none⟩,
    ⟨(some 63), .r (.load none), [.tmp 62], none⟩,
    ⟨(some 68), .r (.load none), [.tmp 67], none⟩], some ⟨(some 54), .h (.call 35), [.tmp 53], none⟩⟩,
   ⟨[⟨(some 55), .p (.bin .add), [.tmp 50, .tmp 54], none⟩], [⟨(some 58), .r (.load none), [.tmp 57], none⟩,
    ⟨(some 63), .r (.load none), [.tmp 62], none⟩,
    ⟨(some 68), .r (.load none), [.tmp 67], none⟩], some ⟨(some 59), .h (.call 35), [.tmp 58], none⟩⟩,
   ⟨[⟨(some 60), .p (.bin .add), [.tmp 55, .tmp 59], none⟩], [⟨(some 63), .r (.load none), [.tmp 62], none⟩,
    ⟨(some 68), .r (.load none), [.tmp 67], none⟩], some ⟨(some 64), .h (.call 35), [.tmp 63], none⟩⟩,
   ⟨[⟨(some 65), .p (.bin .add), [.tmp 60, .tmp 64], none⟩], [⟨(some 68), .r (.load none), [.tmp 67], none⟩], some ⟨(some 69), .h (.call 32), [.tmp 68], none⟩⟩,
   ⟨[⟨(some 70), .p (.bin .add), [.tmp 65, .tmp 69], none⟩,
    ⟨(some 3), .p .move, [.tmp 70], none⟩], [], none⟩])
  (.seq (.dreg [⟨[⟨(some 71), .p .move, [.tmp 3], none⟩,
    ⟨(some 72), .p (.fieldAddr 9), [.tmp 1], none⟩,
    ⟨(some 73), .p (.fieldAddr 0), [.tmp 72], none⟩,
    ⟨(some 74), .r (.load none), [.tmp 73], none⟩,
    ⟨(some 77), .p (.fieldAddr 9), [.tmp 1], none⟩,
    ⟨(some 78), .p (.fieldAddr 1), [.tmp 77], none⟩,
    ⟨(some 79), .r (.load none), [.tmp 78], none⟩,
    ⟨(some 82), .p (.fieldAddr 9), [.tmp 1], none⟩,
    ⟨(some 83), .p (.fieldAddr 2), [.tmp 82], none⟩,
    ⟨(some 84), .r (.load none), [.tmp 83], none⟩,
    ⟨(some 87), .p (.fieldAddr 9), [.tmp 1], none⟩,
    ⟨(some 88), .p (.fieldAddr 3), [.tmp 87], none⟩,
    ⟨(some 89), .r (.load none), [.tmp 88], none⟩,
    ⟨(some 93), .p (.fieldAddr 9), [.tmp 1], none⟩,
    ⟨(some 94), .p (.fieldAddr 4), [.tmp 93], none⟩,
    ⟨(some 95), .r (.load none), [.tmp 94], none⟩,
    ⟨(some 98), .p (.fieldAddr 9), [.tmp 1], none⟩,
    ⟨(some 99), .p (.fieldAddr 5), [.tmp 98], none⟩,
    ⟨(some 100), .r (.load none), [.tmp 99], none⟩], [], some ⟨(some 75), .h (.call 32), [.tmp 74], none⟩⟩,
   ⟨[⟨(some 76), .p (.bin .add), [.tmp 71, .tmp 75], none⟩], [⟨(some 79), .r (.load none), [.tmp 78], none⟩,
    ⟨(some 84), .r (.load none), [.tmp 83], none⟩,
    ⟨(some 89), .r (.load none), [.tmp 88], none⟩,
    ⟨(some 95), .r (.load none), [.tmp 94], none⟩,
    ⟨(some 100), .r (.load none), [.tmp 99], none⟩], some ⟨(some 80), .h (.call 35), [.tmp 79], none⟩⟩,
   ⟨[⟨(some 81), .p (.bin .add), [.tmp 76, .tmp 80], none⟩], [⟨(some 84), .r (.load none), [.tmp 83], none⟩,
    ⟨(some 89), .r (.load none), [.tmp 88], none⟩,
    ⟨(some 95), .r (.load none), [.tmp 94], none⟩,
    ⟨(some 100), .r (.load none), [.tmp 99], none⟩], some ⟨(some 85), .h (.call 34), [.tmp 84], none⟩⟩,
   ⟨[⟨(some 86), .p (.bin .add), [.tmp 81, .tmp 85], none⟩], [⟨(some 89), .r (.load none), [.tmp 88], none⟩,
    ⟨(some 95), .r (.load none), [.tmp 94], none⟩,
    ⟨(some 100), .r (.load none), [.tmp 99], none⟩], some ⟨(some 90), .h (.call 36), [.tmp 89], none⟩⟩,
   ⟨[], [⟨(some 95), .r (.load none), [.tmp 94], none⟩,
    ⟨(some 100), .r (.load none), [.tmp 99], none⟩], some ⟨(some 91), .h (.call 32), [.tmp 90], none⟩⟩,
   ⟨[⟨(some 92), .p (.bin .add), [.tmp 86, .tmp 91], none⟩], [⟨(some 95), .r (.load none), [.tmp 94], none⟩,
    ⟨(some 100), .r (.load none), [.tmp 99], none⟩], some ⟨(some 96), .h (.call 35), [.tmp 95], none⟩⟩,
   ⟨[⟨(some 97), .p (.bin .add), [.tmp 92, .tmp 96], none⟩], [⟨(some 100), .r (.load none), [.tmp 99], none⟩], some ⟨(some 101), .h (.call 32), [.tmp 100], none⟩⟩,
   ⟨[⟨(some 102), .p (.bin .add), [.tmp 97, .tmp 101], none⟩,
    ⟨(some 2), .p .move, [.tmp 102], none⟩], [], none⟩])
  .ret)))), [.tmp 2]⟩
theorem c10 : cFunc Go.Proofs.Tryz.prog false 1 Go.Proofs.Tryz.f10 = some sf10 := by kernel_rfl

/-- rosary/rosarybook.StaysItems -/
def sf11 : SFunc := ⟨2, 21, (.seq (.reg [⟨(some 4), .p .move, [.lit (.bool false)], none⟩])
  (.seq (.reg [⟨(some 5), .p .move, [.tmp 0], none⟩,
    ⟨(some 6), .p .move, [.tmp 1], none⟩,
    ⟨(some 7), .h (.call 37), [.tmp 5, .tmp 6], none⟩,
    ⟨(some 8), .p .move, [.tmp 7], none⟩,
    ⟨(some 9), .p .move, [.tmp 0], some (8, true)⟩,
    ⟨(some 10), .p .move, [.tmp 0], some (8, true)⟩,
    ⟨(some 11), .p .lenSl, [.tmp 10], some (8, true)⟩,
    ⟨(some 12), .p (.bin .add), [.tmp 11, .lit (.int .i64 1)], some (8, true)⟩,
    ⟨(some 13), .p (.sliceSl 2 false true false), [.tmp 9, .tmp 12], some (8, true)⟩,
    ⟨(some 14), .p .move, [.tmp 0], some (8, true)⟩,
    ⟨(some 15), .p .lenSl, [.tmp 14], some (8, true)⟩,
    ⟨(some 16), .p (.indexAddr 2), [.tmp 13, .tmp 15], some (8, true)⟩,
    ⟨(some 17), .p (.fieldAddr 0), [.tmp 16], some (8, true)⟩,
    ⟨(some 18), .r (.load none), [.tmp 17], some (8, true)⟩,
    ⟨(some 19), .p (.bin .eql), [.tmp 18, .lit (.str [109, 97, 114, 107])], some (8, true)⟩,
    ⟨(some 20), .p .pick, [.tmp 8, .tmp 19, .lit (.bool false)], none⟩,
    ⟨(some 4), .p .move, [.tmp 20], none⟩])
  .ret)), [.tmp 4]⟩
theorem c11 : cFunc Go.Proofs.Tryz.prog false 2 Go.Proofs.Tryz.f11 = some sf11 := by kernel_rfl

/-- rosary/letter.Get -/
def sf12 : SFunc := ⟨1, 31, (.seq (.reg [⟨(some 2), .a (.alloc [(.int .i64 0), (.int .i64 0), (.int .i64 0), (.int .i64 0), (.int .i64 0), (.str []), (.str []), (.str []), (.int .i64 0), (.int .i64 0), (.str []), .nilslice, (.bool false), (.str []), (.int .i64 0), (.int .u64 0), (.int .u64 0), (.int .i64 0), .nilslice, (.int .i64 0), (.int .i64 0)]), [], none⟩,
    ⟨(some 3), .p .move, [.lit (.bool false)], none⟩])
  (.seq (.reg [⟨(some 8), .p .move, [.tmp 0], none⟩,
    ⟨(some 9), .h (.call 38), [.tmp 8], none⟩,
    ⟨(some 4), .p .move, [.tmp 9], none⟩])
  (.seq (.reg [⟨(some 10), .p .move, [.tmp 4], none⟩,
    ⟨(some 11), .h (.call 39), [.tmp 10], none⟩,
    ⟨(some 5), .a (.alloc [(.int .i64 0), (.int .i64 0), (.int .i64 0), (.int .i64 0), (.int .i64 0), (.str []), (.str []), (.str []), (.int .i64 0), (.int .i64 0), (.str []), .nilslice, (.bool false), (.str []), (.int .i64 0), (.int .u64 0), (.int .u64 0), (.int .i64 0), .nilslice, (.int .i64 0), (.int .i64 0)]), [], none⟩,
    ⟨none, .h (.store 21), [.tmp 5, .tmp 11], none⟩])
  (.seq (.seq (.reg [⟨(some 13), .r (.load (some 21)), [.tmp 5], none⟩,
    ⟨(some 14), .h (.call 7), [.tmp 13], none⟩,
    ⟨(some 12), .p .move, [.tmp 14], none⟩,
    ⟨(some 15), .p (.extract 0), [.tmp 12], none⟩,
    ⟨(some 16), .p (.extract 1), [.tmp 12], none⟩,
    ⟨(some 6), .p .move, [.tmp 15], none⟩,
    ⟨(some 7), .p .move, [.tmp 16], none⟩])
  (.seq (.reg [⟨(some 17), .p .move, [.tmp 4], none⟩,
    ⟨(some 18), .h (.call 40), [.tmp 17], none⟩,
    ⟨(some 19), .p .not, [.tmp 18], none⟩,
    ⟨(some 20), .p .move, [.tmp 19], none⟩,
    ⟨(some 21), .p .move, [.tmp 7], some (20, false)⟩,
    ⟨(some 22), .p .not, [.tmp 21], some (20, false)⟩,
    ⟨(some 23), .p .pick, [.tmp 20, .lit (.bool true), .tmp 22], none⟩,
    ⟨(some 24), .p .move, [.tmp 23], none⟩,
    ⟨(some 25), .p .move, [.tmp 6], some (24, false)⟩,
    ⟨(some 26), .p .move, [.tmp 0], some (24, false)⟩,
    ⟨(some 27), .p (.bin .neq), [.tmp 25, .tmp 26], some (24, false)⟩,
    ⟨(some 28), .p .pick, [.tmp 24, .lit (.bool true), .tmp 27], none⟩])
  (.cond (.tmp 28) (.seq (.reg [⟨(some 29), .p (.build [(.int .i64 0), (.int .i64 0), (.int .i64 0), (.int .i64 0), (.int .i64 0), (.str []), (.str []), (.str []), (.int .i64 0), (.int .i64 0), (.str []), .nilslice, (.bool false), (.str []), (.int .i64 0), (.int .u64 0), (.int .u64 0), (.int .i64 0), .nilslice, (.int .i64 0), (.int .i64 0)] []), [], none⟩,
    ⟨none, .h (.store 21), [.tmp 2, .tmp 29], none⟩,
    ⟨(some 3), .p .move, [.lit (.bool false)], none⟩])
  .ret)
  .skip)))
  (.seq (.reg [⟨(some 30), .r (.load (some 21)), [.tmp 5], none⟩,
    ⟨none, .h (.store 21), [.tmp 2, .tmp 30], none⟩,
    ⟨(some 3), .p .move, [.lit (.bool true)], none⟩])
  .ret))))), [.cell 2 (some 21), .tmp 3]⟩
theorem c12 : cFunc Go.Proofs.Tryz.prog false 1 Go.Proofs.Tryz.f12 = some sf12 := by kernel_rfl

/-- rosary/rosaryref1.Get -/
def sf13 : SFunc := ⟨1, 28, (.seq (.reg [⟨(some 2), .a (.alloc [(.int .i64 0), (.int .i64 0), (.int .i64 0), (.int .i64 0), (.int .i64 0), (.str []), (.str []), (.str []), (.int .i64 0), (.int .i64 0), (.str []), .nilslice, (.bool false), (.str []), (.int .i64 0), (.int .u64 0), (.int .u64 0), (.int .i64 0), .nilslice, (.int .i64 0), (.int .i64 0)]), [], none⟩,
    ⟨(some 3), .p .move, [.lit (.bool false)], none⟩])
  (.seq (.reg [⟨(some 6), .p .move, [.tmp 0], none⟩,
    ⟨(some 7), .p (.build [(.str []), (.bool false)] [(0, 1)]), [.tmp 6], none⟩,
    ⟨(some 8), .a .box, [.tmp 7], none⟩,
    ⟨(some 4), .p .move, [.tmp 8], none⟩])
  (.seq (.reg [⟨(some 9), .p .move, [.tmp 4], none⟩,
    ⟨(some 10), .h (.call 41), [.tmp 9], none⟩,
    ⟨(some 5), .a (.alloc [(.int .i64 0), (.int .i64 0), (.int .i64 0), (.int .i64 0), (.int .i64 0), (.str []), (.str []), (.str []), (.int .i64 0), (.int .i64 0), (.str []), .nilslice, (.bool false), (.str []), (.int .i64 0), (.int .u64 0), (.int .u64 0), (.int .i64 0), .nilslice, (.int .i64 0), (.int .i64 0)]), [], none⟩,
    ⟨none, .h (.store 21), [.tmp 5, .tmp 10], none⟩])
  (.seq (.seq (.reg [⟨(some 11), .p .move, [.tmp 4], none⟩,
    ⟨(some 12), .p .nilCheck, [.tmp 11], none⟩,
    ⟨(some 13), .p (.fieldAddr 1), [.tmp 12], none⟩,
    ⟨(some 14), .r (.load none), [.tmp 13], none⟩,
    ⟨(some 15), .p .move, [.tmp 14], none⟩,
    ⟨(some 16), .r (.load (some 21)), [.tmp 5], some (15, false)⟩,
    ⟨(some 17), .h (.call 8), [.tmp 16], some (15, false)⟩,
    ⟨(some 18), .p .not, [.tmp 17], some (15, false)⟩,
    ⟨(some 19), .p .pick, [.tmp 15, .lit (.bool true), .tmp 18], none⟩,
    ⟨(some 20), .p .move, [.tmp 19], none⟩,
    ⟨(some 21), .r (.load (some 21)), [.tmp 5], some (20, false)⟩,
    ⟨(some 22), .h (.call 10), [.tmp 21], some (20, false)⟩,
    ⟨(some 23), .p .move, [.tmp 0], some (20, false)⟩,
    ⟨(some 24), .p (.bin .neq), [.tmp 22, .tmp 23], some (20, false)⟩,
    ⟨(some 25), .p .pick, [.tmp 20, .lit (.bool true), .tmp 24], none⟩])
  (.cond (.tmp 25) (.seq (.reg [⟨(some 26), .p (.build [(.int .i64 0), (.int .i64 0), (.int .i64 0), (.int .i64 0), (.int .i64 0), (.str []), (.str []), (.str []), (.int .i64 0), (.int .i64 0), (.str []), .nilslice, (.bool false), (.str []), (.int .i64 0), (.int .u64 0), (.int .u64 0), (.int .i64 0), .nilslice, (.int .i64 0), (.int .i64 0)] []), [], none⟩,
    ⟨none, .h (.store 21), [.tmp 2, .tmp 26], none⟩,
    ⟨(some 3), .p .move, [.lit (.bool false)], none⟩])
  .ret)
  .skip))
  (.seq (.reg [⟨(some 27), .r (.load (some 21)), [.tmp 5], none⟩,
    ⟨none, .h (.store 21), [.tmp 2, .tmp 27], none⟩,
    ⟨(some 3), .p .move, [.lit (.bool true)], none⟩])
  .ret))))), [.cell 2 (some 21), .tmp 3]⟩
theorem c13 : cFunc Go.Proofs.Tryz.prog false 1 Go.Proofs.Tryz.f13 = some sf13 := by kernel_rfl

/-- (*rosary/rosarybook.Book).Items -/
def sf14 : SFunc := ⟨2, 31, (.seq (.reg [⟨(some 4), .p .move, [.tmp 0], none⟩,
    ⟨(some 5), .p .nilCheck, [.tmp 4], none⟩,
    ⟨(some 6), .p (.fieldAddr 6), [.tmp 5], none⟩,
    ⟨(some 7), .r (.load none), [.tmp 6], none⟩,
    ⟨(some 8), .p .lenSl, [.tmp 7], none⟩,
    ⟨(some 9), .p (.bin .lss), [.tmp 8, .lit (.int .i64 250)], none⟩])
  (.cond (.tmp 9) (.seq (.reg [⟨(some 10), .p .move, [.tmp 0], none⟩,
    ⟨(some 11), .p .move, [.tmp 0], none⟩,
    ⟨(some 12), .p .nilCheck, [.tmp 11], none⟩,
    ⟨(some 13), .p (.fieldAddr 6), [.tmp 12], none⟩,
    ⟨(some 14), .r (.load none), [.tmp 13], none⟩,
    ⟨(some 15), .p .move, [.tmp 1], none⟩,
    ⟨(some 16), .a (.buildSlice 1 1 [.nilslice] [0]), [.tmp 15], none⟩,
    ⟨(some 17), .h (.append 1 false), [.tmp 14, .tmp 16], none⟩,
    ⟨(some 18), .p .nilCheck, [.tmp 10], none⟩,
    ⟨(some 19), .p (.fieldAddr 6), [.tmp 18], none⟩,
    ⟨none, .h (.store 1), [.tmp 19, .tmp 17], none⟩])
  (.dreg [⟨[⟨(some 20), .p .move, [.tmp 0], none⟩,
    ⟨(some 21), .p .move, [.tmp 0], none⟩,
    ⟨(some 22), .p .nilCheck, [.tmp 21], none⟩,
    ⟨(some 23), .p (.fieldAddr 7), [.tmp 22], none⟩,
    ⟨(some 24), .r (.load none), [.tmp 23], none⟩,
    ⟨(some 25), .p .move, [.tmp 1], none⟩], [], some ⟨(some 26), .h (.call 18), [.tmp 25], none⟩⟩,
   ⟨[⟨(some 27), .a (.buildSlice 1 1 [.nilslice] [0]), [.tmp 26], none⟩], [⟨(some 24), .r (.load none), [.tmp 23], none⟩], some ⟨(some 28), .h (.append 1 false), [.tmp 24, .tmp 27], none⟩⟩,
   ⟨[⟨(some 29), .p .nilCheck, [.tmp 20], none⟩,
    ⟨(some 30), .p (.fieldAddr 7), [.tmp 29], none⟩], [], some ⟨none, .h (.store 1), [.tmp 30, .tmp 28], none⟩⟩,
   ⟨[], [], none⟩]))
  .skip)), []⟩
theorem c14 : cFunc Go.Proofs.Tryz.prog false 2 Go.Proofs.Tryz.f14 = some sf14 := by kernel_rfl

/-- rosary/rosarybook.SameLetter -/
def sf15 : SFunc := ⟨2, 80, (.seq (.reg [⟨(some 2), .a .box, [.tmp 0], none⟩,
    ⟨(some 3), .a .box, [.tmp 1], none⟩,
    ⟨(some 4), .p .move, [.lit (.bool false)], none⟩])
  (.seq (.reg [⟨(some 5), .p (.fieldAddr 0), [.tmp 2], none⟩,
    ⟨(some 6), .r (.load none), [.tmp 5], none⟩,
    ⟨(some 7), .p (.fieldAddr 0), [.tmp 3], none⟩,
    ⟨(some 8), .r (.load none), [.tmp 7], none⟩,
    ⟨(some 9), .p (.bin .eql), [.tmp 6, .tmp 8], none⟩,
    ⟨(some 10), .p .move, [.tmp 9], none⟩,
    ⟨(some 11), .p (.fieldAddr 1), [.tmp 2], some (10, true)⟩,
    ⟨(some 12), .r (.load none), [.tmp 11], some (10, true)⟩,
    ⟨(some 13), .p (.fieldAddr 1), [.tmp 3], some (10, true)⟩,
    ⟨(some 14), .r (.load none), [.tmp 13], some (10, true)⟩,
    ⟨(some 15), .p (.bin .eql), [.tmp 12, .tmp 14], some (10, true)⟩,
    ⟨(some 16), .p .pick, [.tmp 10, .tmp 15, .lit (.bool false)], none⟩,
    ⟨(some 17), .p .move, [.tmp 16], none⟩,
    ⟨(some 18), .p (.fieldAddr 2), [.tmp 2], some (17, true)⟩,
    ⟨(some 19), .r (.load none), [.tmp 18], some (17, true)⟩,
    ⟨(some 20), .p (.fieldAddr 2), [.tmp 3], some (17, true)⟩,
    ⟨(some 21), .r (.load none), [.tmp 20], some (17, true)⟩,
    ⟨(some 22), .p (.bin .eql), [.tmp 19, .tmp 21], some (17, true)⟩,
    ⟨(some 23), .p .pick, [.tmp 17, .tmp 22, .lit (.bool false)], none⟩,
    ⟨(some 24), .p .move, [.tmp 23], none⟩,
    ⟨(some 25), .p (.fieldAddr 3), [.tmp 2], some (24, true)⟩,
    ⟨(some 26), .r (.load none), [.tmp 25], some (24, true)⟩,
    ⟨(some 27), .p (.fieldAddr 3), [.tmp 3], some (24, true)⟩,
    ⟨(some 28), .r (.load none), [.tmp 27], some (24, true)⟩,
    ⟨(some 29), .p (.bin .eql), [.tmp 26, .tmp 28], some (24, true)⟩,
    ⟨(some 30), .p .pick, [.tmp 24, .tmp 29, .lit (.bool false)], none⟩,
    ⟨(some 31), .p .move, [.tmp 30], none⟩,
    ⟨(some 32), .p (.fieldAddr 4), [.tmp 2], some (31, true)⟩,
    ⟨(some 33), .r (.load (some 5)), [.tmp 32], some (31, true)⟩,
    ⟨(some 34), .p (.fieldAddr 4), [.tmp 3], some (31, true)⟩,
    ⟨(some 35), .r (.load (some 5)), [.tmp 34], some (31, true)⟩,
    ⟨(some 36), .p (.eq false (.agg [.int, .str, .str, .str, .int])), [.tmp 33, .tmp 35], some (31, true)⟩,
    ⟨(some 37), .p .pick, [.tmp 31, .tmp 36, .lit (.bool false)], none⟩,
    ⟨(some 38), .p .move, [.tmp 37], none⟩,
    ⟨(some 39), .p (.fieldAddr 9), [.tmp 2], some (38, true)⟩,
    ⟨(some 40), .r (.load (some 6)), [.tmp 39], some (38, true)⟩,
    ⟨(some 41), .p (.fieldAddr 9), [.tmp 3], some (38, true)⟩,
    ⟨(some 42), .r (.load (some 6)), [.tmp 41], some (38, true)⟩,
    ⟨(some 43), .h (.call 42), [.tmp 40, .tmp 42], some (38, true)⟩,
    ⟨(some 44), .p .pick, [.tmp 38, .tmp 43, .lit (.bool false)], none⟩,
    ⟨(some 45), .p .move, [.tmp 44], none⟩,
    ⟨(some 46), .p (.fieldAddr 15), [.tmp 2], some (45, true)⟩,
    ⟨(some 47), .r (.load (some 2)), [.tmp 46], some (45, true)⟩,
    ⟨(some 48), .p (.fieldAddr 15), [.tmp 3], some (45, true)⟩,
    ⟨(some 49), .r (.load (some 2)), [.tmp 48], some (45, true)⟩,
    ⟨(some 50), .p (.eq false (.agg [.int, .int])), [.tmp 47, .tmp 49], some (45, true)⟩,
    ⟨(some 51), .p .pick, [.tmp 45, .tmp 50, .lit (.bool false)], none⟩,
    ⟨(some 52), .p .move, [.tmp 51], none⟩,
    ⟨(some 53), .p (.fieldAddr 17), [.tmp 2], some (52, true)⟩,
    ⟨(some 54), .r (.load none), [.tmp 53], some (52, true)⟩,
    ⟨(some 55), .p (.fieldAddr 17), [.tmp 3], some (52, true)⟩,
    ⟨(some 56), .r (.load none), [.tmp 55], some (52, true)⟩,
    ⟨(some 57), .p (.bin .eql), [.tmp 54, .tmp 56], some (52, true)⟩,
    ⟨(some 58), .p .pick, [.tmp 52, .tmp 57, .lit (.bool false)], none⟩,
    ⟨(some 59), .p .move, [.tmp 58], none⟩,
    ⟨(some 60), .p (.fieldAddr 18), [.tmp 2], some (59, true)⟩,
    ⟨(some 61), .r (.load none), [.tmp 60], some (59, true)⟩,
    ⟨(some 62), .p (.fieldAddr 18), [.tmp 3], some (59, true)⟩,
    ⟨(some 63), .r (.load none), [.tmp 62], some (59, true)⟩,
    ⟨(some 64), .h (.call 37), [.tmp 61, .tmp 63], some (59, true)⟩,
    ⟨(some 65), .p .pick, [.tmp 59, .tmp 64, .lit (.bool false)], none⟩,
    ⟨(some 66), .p .move, [.tmp 65], none⟩,
    ⟨(some 67), .p (.fieldAddr 19), [.tmp 2], some (66, true)⟩,
    ⟨(some 68), .r (.load none), [.tmp 67], some (66, true)⟩,
    ⟨(some 69), .p (.fieldAddr 19), [.tmp 3], some (66, true)⟩,
    ⟨(some 70), .r (.load none), [.tmp 69], some (66, true)⟩,
    ⟨(some 71), .p (.bin .eql), [.tmp 68, .tmp 70], some (66, true)⟩,
    ⟨(some 72), .p .pick, [.tmp 66, .tmp 71, .lit (.bool false)], none⟩,
    ⟨(some 73), .p .move, [.tmp 72], none⟩,
    ⟨(some 74), .p (.fieldAddr 20), [.tmp 2], some (73, true)⟩,
    ⟨(some 75), .r (.load none), [.tmp 74], some (73, true)⟩,
    ⟨(some 76), .p (.fieldAddr 20), [.tmp 3], some (73, true)⟩,
    ⟨(some 77), .r (.load none), [.tmp 76], some (73, true)⟩,
    ⟨(some 78), .p (.bin .eql), [.tmp 75, .tmp 77], some (73, true)⟩,
    ⟨(some 79), .p .pick, [.tmp 73, .tmp 78, .lit (.bool false)], none⟩,
    ⟨(some 4), .p .move, [.tmp 79], none⟩])
  .ret)), [.tmp 4]⟩
theorem c15 : cFunc Go.Proofs.Tryz.prog false 2 Go.Proofs.Tryz.f15 = some sf15 := by kernel_rfl

/-- rosary/letter.Name -/
def sf16 : SFunc := ⟨1, 14, (.seq (.reg [⟨(some 2), .p .move, [.lit (.str [])], none⟩])
  (.seq (.seq (.reg [⟨(some 3), .p .move, [.tmp 0], none⟩,
    ⟨(some 4), .p (.bin .lss), [.tmp 3, .lit (.int .i64 1)], none⟩,
    ⟨(some 5), .p .move, [.tmp 4], none⟩,
    ⟨(some 6), .p .move, [.tmp 0], some (5, false)⟩,
    ⟨(some 7), .p (.bin .gtr), [.tmp 6, .lit (.int .i64 16)], some (5, false)⟩,
    ⟨(some 8), .p .pick, [.tmp 5, .lit (.bool true), .tmp 7], none⟩])
  (.cond (.tmp 8) (.seq (.reg [⟨(some 2), .p .move, [.lit (.str [])], none⟩])
  .ret)
  .skip))
  (.seq (.reg [⟨(some 9), .h (.call 43), [.lit (.str [97, 115, 107, 32, 116, 111, 108, 100, 32, 108, 111, 97, 100, 32, 108, 111, 97, 100, 115, 32, 108, 111, 99, 107, 32, 108, 111, 99, 107, 101, 100, 32, 117, 110, 108, 111, 99, 107, 32, 103, 105, 118, 101, 32, 103, 97, 118, 101, 32, 111, 102, 102, 101, 114, 32, 97, 99, 99, 101, 112, 116, 32, 99, 104, 117, 110, 107, 32, 103, 111, 116, 32, 99, 111, 109, 109, 105, 116, 32, 100, 111, 110, 101, 32, 100, 114, 111, 112])], none⟩,
    ⟨(some 10), .p .move, [.tmp 0], none⟩,
    ⟨(some 11), .p (.bin .sub), [.tmp 10, .lit (.int .i64 1)], none⟩,
    ⟨(some 12), .p (.indexAddr 1), [.tmp 9, .tmp 11], none⟩,
    ⟨(some 13), .r (.load none), [.tmp 12], none⟩,
    ⟨(some 2), .p .move, [.tmp 13], none⟩])
  .ret))), [.tmp 2]⟩
theorem c16 : cFunc Go.Proofs.Tryz.prog false 1 Go.Proofs.Tryz.f16 = some sf16 := by kernel_rfl

/-- (*rosary/rosarybook.Book).Apart -/
def sf17 : SFunc := ⟨1, 134, (.seq (.reg [⟨(some 2), .p .move, [.lit (.bool false)], none⟩])
  (.seq (.seq (.reg [⟨(some 10), .p .move, [.tmp 0], none⟩,
    ⟨(some 11), .h (.call 44), [.tmp 10], none⟩,
    ⟨(some 12), .p .not, [.tmp 11], none⟩])
  (.cond (.tmp 12) (.seq (.reg [⟨(some 2), .p .move, [.lit (.bool false)], none⟩])
  .ret)
  .skip))
  (.seq (.seq (.reg [⟨(some 13), .p .move, [.tmp 0], none⟩,
    ⟨(some 14), .h (.call 45), [.tmp 13], none⟩,
    ⟨(some 15), .p .not, [.tmp 14], none⟩])
  (.cond (.tmp 15) (.seq (.reg [⟨(some 2), .p .move, [.lit (.bool false)], none⟩])
  .ret)
  .skip))
  (.seq (.seq (.reg [⟨(some 16), .p .move, [.tmp 0], none⟩,
    ⟨(some 17), .h (.call 46), [.tmp 16], none⟩,
    ⟨(some 18), .p .not, [.tmp 17], none⟩])
  (.cond (.tmp 18) (.seq (.reg [⟨(some 2), .p .move, [.lit (.bool false)], none⟩])
  .ret)
  .skip))
  (.seq (.seq (.reg [⟨(some 19), .p .move, [.tmp 0], none⟩,
    ⟨(some 20), .h (.call 47), [.tmp 19], none⟩,
    ⟨(some 21), .p .not, [.tmp 20], none⟩])
  (.cond (.tmp 21) (.seq (.reg [⟨(some 2), .p .move, [.lit (.bool false)], none⟩])
  .ret)
  .skip))
  (.seq (.seq (.reg [⟨(some 22), .p .move, [.tmp 0], none⟩,
    ⟨(some 23), .h (.call 48), [.tmp 22], none⟩,
    ⟨(some 24), .p .not, [.tmp 23], none⟩])
  (.cond (.tmp 24) (.seq (.reg [⟨(some 2), .p .move, [.lit (.bool false)], none⟩])
  .ret)
  .skip))
  (.seq (.seq (.reg [⟨(some 25), .p .move, [.tmp 0], none⟩,
    ⟨(some 26), .h (.call 49), [.tmp 25], none⟩,
    ⟨(some 27), .p .not, [.tmp 26], none⟩])
  (.cond (.tmp 27) (.seq (.reg [⟨(some 2), .p .move, [.lit (.bool false)], none⟩])
  .ret)
  .skip))
  (.seq (.seq (.reg [⟨(some 28), .p .move, [.tmp 0], none⟩,
    ⟨(some 29), .h (.call 50), [.tmp 28], none⟩,
    ⟨(some 30), .p .not, [.tmp 29], none⟩])
  (.cond (.tmp 30) (.seq (.reg [⟨(some 2), .p .move, [.lit (.bool false)], none⟩])
  .ret)
  .skip))
  (.seq (.reg [⟨(some 31), .p .move, [.tmp 0], none⟩,
    ⟨(some 32), .h (.call 51), [.tmp 31], none⟩])
  (.seq (.reg [⟨(some 33), .p .move, [.tmp 0], none⟩,
    ⟨(some 34), .h (.call 52), [.tmp 33], none⟩])
  (.seq (.reg [⟨(some 35), .p .move, [.tmp 0], none⟩,
    ⟨(some 36), .h (.call 53), [.tmp 35], none⟩])
  (.seq (.reg [⟨(some 37), .p .move, [.tmp 0], none⟩,
    ⟨(some 38), .h (.call 54), [.tmp 37], none⟩])
  (.seq (.reg [⟨(some 39), .p .move, [.tmp 0], none⟩,
    ⟨(some 40), .h (.call 55), [.tmp 39], none⟩])
  (.seq (.reg [⟨(some 41), .p .move, [.tmp 0], none⟩,
    ⟨(some 42), .h (.call 56), [.tmp 41], none⟩])
  (.seq (.reg [⟨(some 43), .p .move, [.tmp 0], none⟩,
    ⟨(some 44), .h (.call 57), [.tmp 43], none⟩])
  (.seq (.reg [⟨(some 45), .p .move, [.tmp 0], none⟩,
    ⟨(some 46), .h (.call 58), [.tmp 45], none⟩,
    ⟨(some 3), .p .move, [.tmp 46], none⟩])
  (.seq (.reg [⟨(some 47), .p .move, [.tmp 0], none⟩,
    ⟨(some 48), .h (.call 59), [.tmp 47], none⟩,
    ⟨(some 4), .p .move, [.tmp 48], none⟩])
  (.seq (.reg [⟨(some 49), .p .move, [.tmp 0], none⟩,
    ⟨(some 50), .h (.call 60), [.tmp 49], none⟩,
    ⟨(some 5), .p .move, [.tmp 50], none⟩])
  (.seq (.reg [⟨(some 51), .p .move, [.tmp 0], none⟩,
    ⟨(some 52), .h (.call 61), [.tmp 51], none⟩,
    ⟨(some 6), .p .move, [.tmp 52], none⟩])
  (.seq (.reg [⟨(some 53), .p .move, [.tmp 0], none⟩,
    ⟨(some 54), .h (.call 62), [.tmp 53], none⟩,
    ⟨(some 7), .p .move, [.tmp 54], none⟩])
  (.seq (.reg [⟨(some 55), .p .move, [.tmp 0], none⟩,
    ⟨(some 56), .h (.call 63), [.tmp 55], none⟩,
    ⟨(some 8), .p .move, [.tmp 56], none⟩])
  (.seq (.reg [⟨(some 57), .p .move, [.tmp 0], none⟩,
    ⟨(some 58), .h (.call 64), [.tmp 57], none⟩,
    ⟨(some 9), .p .move, [.tmp 58], none⟩])
  (.seq (.reg [⟨(some 59), .p .move, [.tmp 3], none⟩,
    ⟨(some 60), .h (.call 65), [.tmp 59], none⟩,
    ⟨(some 61), .p .move, [.tmp 60], none⟩,
    ⟨(some 62), .p .move, [.tmp 0], some (61, true)⟩,
    ⟨(some 63), .p .nilCheck, [.tmp 62], some (61, true)⟩,
    ⟨(some 64), .p (.fieldAddr 0), [.tmp 63], some (61, true)⟩,
    ⟨(some 65), .r (.load none), [.tmp 64], some (61, true)⟩,
    ⟨(some 66), .h (.call 65), [.tmp 65], some (61, true)⟩,
    ⟨(some 67), .p .pick, [.tmp 61, .tmp 66, .lit (.bool false)], none⟩,
    ⟨(some 68), .p .move, [.tmp 67], none⟩,
    ⟨(some 69), .p .move, [.tmp 4], some (68, true)⟩,
    ⟨(some 70), .h (.call 66), [.tmp 69], some (68, true)⟩,
    ⟨(some 71), .p .pick, [.tmp 68, .tmp 70, .lit (.bool false)], none⟩,
    ⟨(some 72), .p .move, [.tmp 71], none⟩,
    ⟨(some 73), .p .move, [.tmp 0], some (72, true)⟩,
    ⟨(some 74), .p .nilCheck, [.tmp 73], some (72, true)⟩,
    ⟨(some 75), .p (.fieldAddr 2), [.tmp 74], some (72, true)⟩,
    ⟨(some 76), .r (.load none), [.tmp 75], some (72, true)⟩,
    ⟨(some 77), .h (.call 66), [.tmp 76], some (72, true)⟩,
    ⟨(some 78), .p .pick, [.tmp 72, .tmp 77, .lit (.bool false)], none⟩,
    ⟨(some 79), .p .move, [.tmp 78], none⟩,
    ⟨(some 80), .p .move, [.tmp 5], some (79, true)⟩,
    ⟨(some 81), .h (.call 67), [.tmp 80], some (79, true)⟩,
    ⟨(some 82), .p .pick, [.tmp 79, .tmp 81, .lit (.bool false)], none⟩,
    ⟨(some 83), .p .move, [.tmp 82], none⟩,
    ⟨(some 84), .p .move, [.tmp 0], some (83, true)⟩,
    ⟨(some 85), .p .nilCheck, [.tmp 84], some (83, true)⟩,
    ⟨(some 86), .p (.fieldAddr 4), [.tmp 85], some (83, true)⟩,
    ⟨(some 87), .r (.load none), [.tmp 86], some (83, true)⟩,
    ⟨(some 88), .h (.call 67), [.tmp 87], some (83, true)⟩,
    ⟨(some 89), .p .pick, [.tmp 83, .tmp 88, .lit (.bool false)], none⟩,
    ⟨(some 90), .p .move, [.tmp 89], none⟩,
    ⟨(some 91), .p .move, [.tmp 6], some (90, true)⟩,
    ⟨(some 92), .h (.call 68), [.tmp 91], some (90, true)⟩,
    ⟨(some 93), .p .pick, [.tmp 90, .tmp 92, .lit (.bool false)], none⟩,
    ⟨(some 94), .p .move, [.tmp 93], none⟩,
    ⟨(some 95), .p .move, [.tmp 0], some (94, true)⟩,
    ⟨(some 96), .p .nilCheck, [.tmp 95], some (94, true)⟩,
    ⟨(some 97), .p (.fieldAddr 6), [.tmp 96], some (94, true)⟩,
    ⟨(some 98), .r (.load none), [.tmp 97], some (94, true)⟩,
    ⟨(some 99), .h (.call 68), [.tmp 98], some (94, true)⟩,
    ⟨(some 100), .p .pick, [.tmp 94, .tmp 99, .lit (.bool false)], none⟩,
    ⟨(some 101), .p .move, [.tmp 100], none⟩,
    ⟨(some 102), .p .move, [.tmp 7], some (101, true)⟩,
    ⟨(some 103), .h (.call 69), [.tmp 102], some (101, true)⟩,
    ⟨(some 104), .p .pick, [.tmp 101, .tmp 103, .lit (.bool false)], none⟩,
    ⟨(some 105), .p .move, [.tmp 104], none⟩,
    ⟨(some 106), .p .move, [.tmp 0], some (105, true)⟩,
    ⟨(some 107), .p .nilCheck, [.tmp 106], some (105, true)⟩,
    ⟨(some 108), .p (.fieldAddr 8), [.tmp 107], some (105, true)⟩,
    ⟨(some 109), .r (.load none), [.tmp 108], some (105, true)⟩,
    ⟨(some 110), .h (.call 69), [.tmp 109], some (105, true)⟩,
    ⟨(some 111), .p .pick, [.tmp 105, .tmp 110, .lit (.bool false)], none⟩,
    ⟨(some 112), .p .move, [.tmp 111], none⟩,
    ⟨(some 113), .p .move, [.tmp 8], some (112, true)⟩,
    ⟨(some 114), .h (.call 70), [.tmp 113], some (112, true)⟩,
    ⟨(some 115), .p .pick, [.tmp 112, .tmp 114, .lit (.bool false)], none⟩,
    ⟨(some 116), .p .move, [.tmp 115], none⟩,
    ⟨(some 117), .p .move, [.tmp 0], some (116, true)⟩,
    ⟨(some 118), .p .nilCheck, [.tmp 117], some (116, true)⟩,
    ⟨(some 119), .p (.fieldAddr 10), [.tmp 118], some (116, true)⟩,
    ⟨(some 120), .r (.load none), [.tmp 119], some (116, true)⟩,
    ⟨(some 121), .h (.call 70), [.tmp 120], some (116, true)⟩,
    ⟨(some 122), .p .pick, [.tmp 116, .tmp 121, .lit (.bool false)], none⟩,
    ⟨(some 123), .p .move, [.tmp 122], none⟩,
    ⟨(some 124), .p .move, [.tmp 9], some (123, true)⟩,
    ⟨(some 125), .h (.call 71), [.tmp 124], some (123, true)⟩,
    ⟨(some 126), .p .pick, [.tmp 123, .tmp 125, .lit (.bool false)], none⟩,
    ⟨(some 127), .p .move, [.tmp 126], none⟩,
    ⟨(some 128), .p .move, [.tmp 0], some (127, true)⟩,
    ⟨(some 129), .p .nilCheck, [.tmp 128], some (127, true)⟩,
    ⟨(some 130), .p (.fieldAddr 12), [.tmp 129], some (127, true)⟩,
    ⟨(some 131), .r (.load none), [.tmp 130], some (127, true)⟩,
    ⟨(some 132), .h (.call 71), [.tmp 131], some (127, true)⟩,
    ⟨(some 133), .p .pick, [.tmp 127, .tmp 132, .lit (.bool false)], none⟩,
    ⟨(some 2), .p .move, [.tmp 133], none⟩])
  .ret))))))))))))))))))))))), [.tmp 2]⟩
theorem c17 : cFunc Go.Proofs.Tryz.prog false 1 Go.Proofs.Tryz.f17 = some sf17 := by kernel_rfl

/-- rosary/rosarybook.copyItems -/
def sf18 : SFunc := ⟨1, 5, (.seq (.reg [⟨(some 2), .p .move, [.lit .nilslice], none⟩])
  (.seq (.reg [⟨(some 3), .p .move, [.tmp 0], none⟩,
    ⟨(some 4), .h (.append 2 false), [.lit .nilslice, .tmp 3], none⟩,
    ⟨(some 2), .p .move, [.tmp 4], none⟩])
  .ret)), [.tmp 2]⟩
theorem c18 : cFunc Go.Proofs.Tryz.prog false 1 Go.Proofs.Tryz.f18 = some sf18 := by kernel_rfl

/-- (*rosary/letter.writer).nums -/
def sf19 : SFunc := ⟨2, 25, (.seq (.reg [⟨(some 8), .p .move, [.tmp 1], none⟩,
    ⟨(some 9), .p .lenSl, [.tmp 8], none⟩,
    ⟨(some 10), .p .move, [.lit (.int .i64 0)], none⟩])
  (.block 0 (.loop [0, 8, 9, 10] (.seq (.reg [⟨(some 11), .p (.bin .lss), [.tmp 10, .tmp 9], none⟩])
  (.seq (.cond (.tmp 11) .skip
  (.exit 0))
  (.seq (.block 1 (.seq (.reg [⟨(some 12), .p (.indexAddr 1), [.tmp 8, .tmp 10], none⟩,
    ⟨(some 13), .r (.load none), [.tmp 12], none⟩,
    ⟨(some 5), .p .move, [.tmp 13], none⟩])
  (.seq (.reg [⟨(some 15), .p .move, [.tmp 5], none⟩,
    ⟨(some 16), .h (.call 72), [.tmp 15], none⟩,
    ⟨(some 14), .p .move, [.tmp 16], none⟩,
    ⟨(some 17), .p (.extract 0), [.tmp 14], none⟩,
    ⟨(some 18), .p (.extract 1), [.tmp 14], none⟩,
    ⟨(some 6), .p .move, [.tmp 17], none⟩,
    ⟨(some 7), .p .move, [.tmp 18], none⟩])
  (.reg [⟨(some 19), .p .move, [.tmp 0], none⟩,
    ⟨(some 20), .p .nilCheck, [.tmp 19], none⟩,
    ⟨(some 21), .p (.fieldAddr 0), [.tmp 20], none⟩,
    ⟨(some 22), .p .move, [.tmp 6], none⟩,
    ⟨(some 23), .h (.call 20), [.tmp 21, .tmp 22], none⟩]))))
  (.reg [⟨(some 24), .p (.bin .add), [.tmp 10, .lit (.int .i64 1)], none⟩,
    ⟨(some 10), .p .move, [.tmp 24], none⟩]))))))), []⟩
theorem c19 : cFunc Go.Proofs.Tryz.prog false 2 Go.Proofs.Tryz.f19 = some sf19 := by kernel_rfl

/-- (*strings.Builder).WriteString -/
def sf20 : SFunc := ⟨2, 19, (.seq (.reg [⟨(some 4), .p .move, [.lit (.int .i64 0)], none⟩,
    ⟨(some 5), .p .move, [.lit .undef], none⟩])
  (.seq (.reg [⟨(some 6), .p .move, [.tmp 0], none⟩,
    ⟨(some 7), .h (.call 73), [.tmp 6], none⟩])
  (.seq (.reg [⟨(some 8), .p .move, [.tmp 0], none⟩,
    ⟨(some 9), .p .move, [.tmp 0], none⟩,
    ⟨(some 10), .p .nilCheck, [.tmp 9], none⟩,
    ⟨(some 11), .p (.fieldAddr 1), [.tmp 10], none⟩,
    ⟨(some 12), .r (.load none), [.tmp 11], none⟩,
    ⟨(some 13), .p .move, [.tmp 1], none⟩,
    ⟨(some 14), .h (.appendStr false), [.tmp 12, .tmp 13], none⟩,
    ⟨(some 15), .p .nilCheck, [.tmp 8], none⟩,
    ⟨(some 16), .p (.fieldAddr 1), [.tmp 15], none⟩,
    ⟨none, .h (.store 1), [.tmp 16, .tmp 14], none⟩])
  (.seq (.reg [⟨(some 17), .p .move, [.tmp 1], none⟩,
    ⟨(some 18), .p .lenStr, [.tmp 17], none⟩,
    ⟨(some 4), .p .move, [.tmp 18], none⟩,
    ⟨(some 5), .p .move, [.lit .undef], none⟩])
  .ret)))), [.tmp 4, .tmp 5]⟩
theorem c20 : cFunc Go.Proofs.Tryz.prog false 2 Go.Proofs.Tryz.f20 = some sf20 := by kernel_rfl

/-- rosary/pack.Wide -/
def sf21 : SFunc := ⟨1, 5, (.seq (.reg [⟨(some 2), .p .move, [.lit (.str [])], none⟩])
  (.seq (.reg [⟨(some 3), .p .move, [.tmp 0], none⟩,
    ⟨(some 4), .h (.call 74), [.tmp 3, .lit (.int .i64 8)], none⟩,
    ⟨(some 2), .p .move, [.tmp 4], none⟩])
  .ret)), [.tmp 2]⟩
theorem c21 : cFunc Go.Proofs.Tryz.prog false 1 Go.Proofs.Tryz.f21 = some sf21 := by kernel_rfl

/-- (*rosary/letter.writer).items -/
def sf22 : SFunc := ⟨2, 25, (.seq (.reg [⟨(some 6), .p .move, [.tmp 0], none⟩,
    ⟨(some 7), .p .move, [.tmp 1], none⟩,
    ⟨(some 8), .p .lenSl, [.tmp 7], none⟩,
    ⟨(some 9), .a (.buildSlice 1 1 [(.int .i64 0)] [0]), [.tmp 8], none⟩,
    ⟨(some 10), .h (.call 19), [.tmp 6, .tmp 9], none⟩])
  (.seq (.reg [⟨(some 11), .p .move, [.tmp 1], none⟩,
    ⟨(some 12), .p .lenSl, [.tmp 11], none⟩,
    ⟨(some 13), .p .move, [.lit (.int .i64 0)], none⟩])
  (.block 0 (.loop [0, 11, 12, 13] (.seq (.reg [⟨(some 14), .p (.bin .lss), [.tmp 13, .tmp 12], none⟩])
  (.seq (.cond (.tmp 14) .skip
  (.exit 0))
  (.seq (.block 1 (.seq (.reg [⟨(some 15), .p (.indexAddr 2), [.tmp 11, .tmp 13], none⟩,
    ⟨(some 16), .r (.load (some 2)), [.tmp 15], none⟩,
    ⟨(some 5), .a (.alloc [(.str []), (.str [])]), [], none⟩,
    ⟨none, .h (.store 2), [.tmp 5, .tmp 16], none⟩])
  (.reg [⟨(some 17), .p .move, [.tmp 0], none⟩,
    ⟨(some 18), .p (.fieldAddr 0), [.tmp 5], none⟩,
    ⟨(some 19), .r (.load none), [.tmp 18], none⟩,
    ⟨(some 20), .p (.fieldAddr 1), [.tmp 5], none⟩,
    ⟨(some 21), .r (.load none), [.tmp 20], none⟩,
    ⟨(some 22), .a (.buildSlice 1 2 [(.str [])] [0, 1]), [.tmp 19, .tmp 21], none⟩,
    ⟨(some 23), .h (.call 23), [.tmp 17, .tmp 22], none⟩])))
  (.reg [⟨(some 24), .p (.bin .add), [.tmp 13, .lit (.int .i64 1)], none⟩,
    ⟨(some 13), .p .move, [.tmp 24], none⟩])))))))), []⟩
theorem c22 : cFunc Go.Proofs.Tryz.prog false 2 Go.Proofs.Tryz.f22 = some sf22 := by kernel_rfl

/-- (*rosary/letter.writer).texts -/
def sf23 : SFunc := ⟨2, 25, (.seq (.reg [⟨(some 8), .p .move, [.tmp 1], none⟩,
    ⟨(some 9), .p .lenSl, [.tmp 8], none⟩,
    ⟨(some 10), .p .move, [.lit (.int .i64 0)], none⟩])
  (.block 0 (.loop [0, 8, 9, 10] (.seq (.reg [⟨(some 11), .p (.bin .lss), [.tmp 10, .tmp 9], none⟩])
  (.seq (.cond (.tmp 11) .skip
  (.exit 0))
  (.seq (.block 1 (.seq (.reg [⟨(some 12), .p (.indexAddr 1), [.tmp 8, .tmp 10], none⟩,
    ⟨(some 13), .r (.load none), [.tmp 12], none⟩,
    ⟨(some 5), .p .move, [.tmp 13], none⟩])
  (.seq (.reg [⟨(some 15), .p .move, [.tmp 5], none⟩,
    ⟨(some 16), .h (.call 75), [.tmp 15], none⟩,
    ⟨(some 14), .p .move, [.tmp 16], none⟩,
    ⟨(some 17), .p (.extract 0), [.tmp 14], none⟩,
    ⟨(some 18), .p (.extract 1), [.tmp 14], none⟩,
    ⟨(some 6), .p .move, [.tmp 17], none⟩,
    ⟨(some 7), .p .move, [.tmp 18], none⟩])
  (.reg [⟨(some 19), .p .move, [.tmp 0], none⟩,
    ⟨(some 20), .p .nilCheck, [.tmp 19], none⟩,
    ⟨(some 21), .p (.fieldAddr 0), [.tmp 20], none⟩,
    ⟨(some 22), .p .move, [.tmp 6], none⟩,
    ⟨(some 23), .h (.call 20), [.tmp 21, .tmp 22], none⟩]))))
  (.reg [⟨(some 24), .p (.bin .add), [.tmp 10, .lit (.int .i64 1)], none⟩,
    ⟨(some 10), .p .move, [.tmp 24], none⟩]))))))), []⟩
theorem c23 : cFunc Go.Proofs.Tryz.prog false 2 Go.Proofs.Tryz.f23 = some sf23 := by kernel_rfl

/-- rosary/rosaryref1.byteful -/
def sf25 : SFunc := ⟨1, 9, (.seq (.reg [⟨(some 2), .p .move, [.lit (.bool false)], none⟩])
  (.seq (.reg [⟨(some 3), .p .move, [.tmp 0], none⟩,
    ⟨(some 4), .p (.bin .geq), [.tmp 3, .lit (.int .i64 0)], none⟩,
    ⟨(some 5), .p .move, [.tmp 4], none⟩,
    ⟨(some 6), .p .move, [.tmp 0], some (5, true)⟩,
    ⟨(some 7), .p (.bin .leq), [.tmp 6, .lit (.int .i64 255)], some (5, true)⟩,
    ⟨(some 8), .p .pick, [.tmp 5, .tmp 7, .lit (.bool false)], none⟩,
    ⟨(some 2), .p .move, [.tmp 8], none⟩])
  .ret)), [.tmp 2]⟩
theorem c25 : cFunc Go.Proofs.Tryz.prog false 1 Go.Proofs.Tryz.f25 = some sf25 := by kernel_rfl

/-- rosary/rosaryref1.numeral -/
def sf26 : SFunc := ⟨1, 9, (.seq (.reg [⟨(some 2), .p .move, [.lit (.bool false)], none⟩])
  (.seq (.reg [⟨(some 3), .p .move, [.tmp 0], none⟩,
    ⟨(some 4), .p (.bin .geq), [.tmp 3, .lit (.int .i64 0)], none⟩,
    ⟨(some 5), .p .move, [.tmp 4], none⟩,
    ⟨(some 6), .p .move, [.tmp 0], some (5, true)⟩,
    ⟨(some 7), .p (.bin .leq), [.tmp 6, .lit (.int .i64 65535)], some (5, true)⟩,
    ⟨(some 8), .p .pick, [.tmp 5, .tmp 7, .lit (.bool false)], none⟩,
    ⟨(some 2), .p .move, [.tmp 8], none⟩])
  .ret)), [.tmp 2]⟩
theorem c26 : cFunc Go.Proofs.Tryz.prog false 1 Go.Proofs.Tryz.f26 = some sf26 := by kernel_rfl

/-- rosary/rosaryref1.lines -/
def sf27 : SFunc := ⟨1, 29, (.seq (.reg [⟨(some 2), .p .move, [.lit (.bool false)], none⟩])
  (.seq (.seq (.reg [⟨(some 3), .p .move, [.lit (.int .i64 0)], none⟩])
  (.block 0 (.loop [0, 3] (.seq (.seq (.reg [⟨(some 4), .p .move, [.tmp 3], none⟩,
    ⟨(some 5), .p .move, [.tmp 0], none⟩,
    ⟨(some 6), .p .lenSl, [.tmp 5], none⟩,
    ⟨(some 7), .p (.bin .lss), [.tmp 4, .tmp 6], none⟩])
  (.cond (.tmp 7) .skip
  (.exit 0)))
  (.seq (.block 1 (.seq (.reg [⟨(some 10), .p .move, [.tmp 0], none⟩,
    ⟨(some 11), .p .move, [.tmp 3], none⟩,
    ⟨(some 12), .p (.indexAddr 2), [.tmp 10, .tmp 11], none⟩,
    ⟨(some 13), .p (.fieldAddr 0), [.tmp 12], none⟩,
    ⟨(some 14), .r (.load none), [.tmp 13], none⟩,
    ⟨(some 15), .p .lenStr, [.tmp 14], none⟩,
    ⟨(some 16), .p (.bin .gtr), [.tmp 15, .lit (.int .i64 255)], none⟩,
    ⟨(some 17), .p .move, [.tmp 16], none⟩,
    ⟨(some 18), .p .move, [.tmp 0], some (17, false)⟩,
    ⟨(some 19), .p .move, [.tmp 3], some (17, false)⟩,
    ⟨(some 20), .p (.indexAddr 2), [.tmp 18, .tmp 19], some (17, false)⟩,
    ⟨(some 21), .p (.fieldAddr 1), [.tmp 20], some (17, false)⟩,
    ⟨(some 22), .r (.load none), [.tmp 21], some (17, false)⟩,
    ⟨(some 23), .p .lenStr, [.tmp 22], some (17, false)⟩,
    ⟨(some 24), .p (.bin .gtr), [.tmp 23, .lit (.int .i64 255)], some (17, false)⟩,
    ⟨(some 25), .p .pick, [.tmp 17, .lit (.bool true), .tmp 24], none⟩])
  (.cond (.tmp 25) (.seq (.reg [⟨(some 2), .p .move, [.lit (.bool false)], none⟩])
  .ret)
  .skip)))
  (.reg [⟨(some 8), .p .move, [.tmp 3], none⟩,
    ⟨(some 9), .p (.bin .add), [.tmp 8, .lit (.int .i64 1)], none⟩,
    ⟨(some 3), .p .move, [.tmp 9], none⟩]))))))
  (.seq (.reg [⟨(some 26), .p .move, [.tmp 0], none⟩,
    ⟨(some 27), .p .lenSl, [.tmp 26], none⟩,
    ⟨(some 28), .p (.bin .leq), [.tmp 27, .lit (.int .i64 40)], none⟩,
    ⟨(some 2), .p .move, [.tmp 28], none⟩])
  .ret))), [.tmp 2]⟩
theorem c27 : cFunc Go.Proofs.Tryz.prog false 1 Go.Proofs.Tryz.f27 = some sf27 := by kernel_rfl

/-- rosary/letter.small -/
def sf28 : SFunc := ⟨1, 6, (.seq (.reg [⟨(some 2), .p .move, [.lit (.bool false)], none⟩])
  (.seq (.reg [⟨(some 3), .p .move, [.tmp 0], none⟩,
    ⟨(some 4), .h (.call 76), [.tmp 3, .lit (.func 77 [])], none⟩,
    ⟨(some 5), .p .not, [.tmp 4], none⟩,
    ⟨(some 2), .p .move, [.tmp 5], none⟩])
  .ret)), [.tmp 2]⟩
theorem c28 : cFunc Go.Proofs.Tryz.prog false 1 Go.Proofs.Tryz.f28 = some sf28 := by kernel_rfl

/-- rosary/letter.wide -/
def sf29 : SFunc := ⟨1, 6, (.seq (.reg [⟨(some 2), .p .move, [.lit (.bool false)], none⟩])
  (.seq (.reg [⟨(some 3), .p .move, [.tmp 0], none⟩,
    ⟨(some 4), .h (.call 76), [.tmp 3, .lit (.func 78 [])], none⟩,
    ⟨(some 5), .p .not, [.tmp 4], none⟩,
    ⟨(some 2), .p .move, [.tmp 5], none⟩])
  .ret)), [.tmp 2]⟩
theorem c29 : cFunc Go.Proofs.Tryz.prog false 1 Go.Proofs.Tryz.f29 = some sf29 := by kernel_rfl

/-- rosary/letter.texts -/
def sf30 : SFunc := ⟨1, 6, (.seq (.reg [⟨(some 2), .p .move, [.lit (.bool false)], none⟩])
  (.seq (.reg [⟨(some 3), .p .move, [.tmp 0], none⟩,
    ⟨(some 4), .h (.call 79), [.tmp 3, .lit (.func 80 [])], none⟩,
    ⟨(some 5), .p .not, [.tmp 4], none⟩,
    ⟨(some 2), .p .move, [.tmp 5], none⟩])
  .ret)), [.tmp 2]⟩
theorem c30 : cFunc Go.Proofs.Tryz.prog false 1 Go.Proofs.Tryz.f30 = some sf30 := by kernel_rfl

/-- rosary/letter.items -/
def sf31 : SFunc := ⟨1, 11, (.seq (.reg [⟨(some 2), .p .move, [.lit (.bool false)], none⟩])
  (.seq (.reg [⟨(some 3), .p .move, [.tmp 0], none⟩,
    ⟨(some 4), .p .lenSl, [.tmp 3], none⟩,
    ⟨(some 5), .p (.bin .leq), [.tmp 4, .lit (.int .i64 40)], none⟩,
    ⟨(some 6), .p .move, [.tmp 5], none⟩,
    ⟨(some 7), .p .move, [.tmp 0], some (6, true)⟩,
    ⟨(some 8), .h (.call 81), [.tmp 7, .lit (.func 82 [])], some (6, true)⟩,
    ⟨(some 9), .p .not, [.tmp 8], some (6, true)⟩,
    ⟨(some 10), .p .pick, [.tmp 6, .tmp 9, .lit (.bool false)], none⟩,
    ⟨(some 2), .p .move, [.tmp 10], none⟩])
  .ret)), [.tmp 2]⟩
theorem c31 : cFunc Go.Proofs.Tryz.prog false 1 Go.Proofs.Tryz.f31 = some sf31 := by kernel_rfl

/-- rosary/rosaryref1.Num -/
def sf32 : SFunc := ⟨1, 10, (.seq (.reg [⟨(some 2), .p .move, [.lit (.str [])], none⟩])
  (.seq (.reg [⟨(some 3), .p .move, [.tmp 0], none⟩,
    ⟨(some 4), .p (.bin .quo), [.tmp 3, .lit (.int .i64 256)], none⟩,
    ⟨(some 5), .p (.convInt .u8), [.tmp 4], none⟩,
    ⟨(some 6), .p .move, [.tmp 0], none⟩,
    ⟨(some 7), .p (.convInt .u8), [.tmp 6], none⟩,
    ⟨(some 8), .a (.buildSlice 1 2 [(.int .u8 0)] [0, 1]), [.tmp 5, .tmp 7], none⟩,
    ⟨(some 9), .r .toStr, [.tmp 8], none⟩,
    ⟨(some 2), .p .move, [.tmp 9], none⟩])
  .ret)), [.tmp 2]⟩
theorem c32 : cFunc Go.Proofs.Tryz.prog false 1 Go.Proofs.Tryz.f32 = some sf32 := by kernel_rfl

/-- rosary/rosaryref1.Wide -/
def sf33 : SFunc := ⟨1, 20, (.seq (.reg [⟨(some 2), .p .move, [.lit (.str [])], none⟩])
  (.seq (.reg [⟨(some 5), .a (.makeSlice [(.int .u8 0)]), [.lit (.int .i64 8), .lit (.int .i64 8)], none⟩,
    ⟨(some 3), .p .move, [.tmp 5], none⟩])
  (.seq (.seq (.reg [⟨(some 4), .p .move, [.lit (.int .i64 7)], none⟩])
  (.block 0 (.loop [0, 3, 4] (.seq (.seq (.reg [⟨(some 6), .p .move, [.tmp 4], none⟩,
    ⟨(some 7), .p (.bin .geq), [.tmp 6, .lit (.int .i64 0)], none⟩])
  (.cond (.tmp 7) .skip
  (.exit 0)))
  (.seq (.block 1 (.seq (.reg [⟨(some 10), .p .move, [.tmp 3], none⟩,
    ⟨(some 11), .p .move, [.tmp 4], none⟩,
    ⟨(some 12), .p .move, [.tmp 0], none⟩,
    ⟨(some 13), .p (.bin .and), [.tmp 12, .lit (.int .u64 255)], none⟩,
    ⟨(some 14), .p (.convInt .u8), [.tmp 13], none⟩,
    ⟨(some 15), .p (.indexAddr 1), [.tmp 10, .tmp 11], none⟩,
    ⟨none, .h (.store 1), [.tmp 15, .tmp 14], none⟩])
  (.reg [⟨(some 16), .p .move, [.tmp 0], none⟩,
    ⟨(some 17), .p (.bin .quo), [.tmp 16, .lit (.int .u64 256)], none⟩,
    ⟨(some 0), .p .move, [.tmp 17], none⟩])))
  (.reg [⟨(some 8), .p .move, [.tmp 4], none⟩,
    ⟨(some 9), .p (.bin .sub), [.tmp 8, .lit (.int .i64 1)], none⟩,
    ⟨(some 4), .p .move, [.tmp 9], none⟩]))))))
  (.seq (.reg [⟨(some 18), .p .move, [.tmp 3], none⟩,
    ⟨(some 19), .r .toStr, [.tmp 18], none⟩,
    ⟨(some 2), .p .move, [.tmp 19], none⟩])
  .ret)))), [.tmp 2]⟩
theorem c33 : cFunc Go.Proofs.Tryz.prog false 1 Go.Proofs.Tryz.f33 = some sf33 := by kernel_rfl

/-- rosary/rosaryref1.items -/
def sf34 : SFunc := ⟨1, 30, (.seq (.reg [⟨(some 2), .p .move, [.lit (.str [])], none⟩])
  (.seq (.reg [⟨(some 5), .p .move, [.tmp 0], none⟩,
    ⟨(some 6), .p .lenSl, [.tmp 5], none⟩,
    ⟨(some 7), .h (.call 32), [.tmp 6], none⟩,
    ⟨(some 3), .p .move, [.tmp 7], none⟩])
  (.seq (.seq (.reg [⟨(some 4), .p .move, [.lit (.int .i64 0)], none⟩])
  (.block 0 (.loop [0, 3, 4] (.seq (.seq (.reg [⟨(some 8), .p .move, [.tmp 4], none⟩,
    ⟨(some 9), .p .move, [.tmp 0], none⟩,
    ⟨(some 10), .p .lenSl, [.tmp 9], none⟩,
    ⟨(some 11), .p (.bin .lss), [.tmp 8, .tmp 10], none⟩])
  (.cond (.tmp 11) .skip
  (.exit 0)))
  (.seq (.block 1 (.dreg [⟨[⟨(some 14), .p .move, [.tmp 3], none⟩,
    ⟨(some 15), .p .move, [.tmp 0], none⟩,
    ⟨(some 16), .p .move, [.tmp 4], none⟩,
    ⟨(some 17), .p (.indexAddr 2), [.tmp 15, .tmp 16], none⟩,
    ⟨(some 18), .p (.fieldAddr 0), [.tmp 17], none⟩,
    ⟨(some 19), .r (.load none), [.tmp 18], none⟩,
    ⟨(some 22), .p .move, [.tmp 0], none⟩,
    ⟨(some 23), .p .move, [.tmp 4], none⟩,
    ⟨(some 24), .p (.indexAddr 2), [.tmp 22, .tmp 23], none⟩,
    ⟨(some 25), .p (.fieldAddr 1), [.tmp 24], none⟩,
    ⟨(some 26), .r (.load none), [.tmp 25], none⟩], [], some ⟨(some 20), .h (.call 35), [.tmp 19], none⟩⟩,
   ⟨[⟨(some 21), .p (.bin .add), [.tmp 14, .tmp 20], none⟩], [⟨(some 26), .r (.load none), [.tmp 25], none⟩], some ⟨(some 27), .h (.call 35), [.tmp 26], none⟩⟩,
   ⟨[⟨(some 28), .p (.bin .add), [.tmp 21, .tmp 27], none⟩,
    ⟨(some 3), .p .move, [.tmp 28], none⟩], [], none⟩]))
  (.reg [⟨(some 12), .p .move, [.tmp 4], none⟩,
    ⟨(some 13), .p (.bin .add), [.tmp 12, .lit (.int .i64 1)], none⟩,
    ⟨(some 4), .p .move, [.tmp 13], none⟩]))))))
  (.seq (.reg [⟨(some 29), .p .move, [.tmp 3], none⟩,
    ⟨(some 2), .p .move, [.tmp 29], none⟩])
  .ret)))), [.tmp 2]⟩
theorem c34 : cFunc Go.Proofs.Tryz.prog false 1 Go.Proofs.Tryz.f34 = some sf34 := by kernel_rfl

/-- rosary/rosaryref1.Text -/
def sf35 : SFunc := ⟨1, 10, (.seq (.reg [⟨(some 2), .p .move, [.lit (.str [])], none⟩])
  (.seq (.reg [⟨(some 3), .p .move, [.tmp 0], none⟩,
    ⟨(some 4), .p .lenStr, [.tmp 3], none⟩,
    ⟨(some 5), .p (.convInt .u8), [.tmp 4], none⟩,
    ⟨(some 6), .a (.buildSlice 1 1 [(.int .u8 0)] [0]), [.tmp 5], none⟩,
    ⟨(some 7), .r .toStr, [.tmp 6], none⟩,
    ⟨(some 8), .p .move, [.tmp 0], none⟩,
    ⟨(some 9), .p (.bin .add), [.tmp 7, .tmp 8], none⟩,
    ⟨(some 2), .p .move, [.tmp 9], none⟩])
  .ret)), [.tmp 2]⟩
theorem c35 : cFunc Go.Proofs.Tryz.prog false 1 Go.Proofs.Tryz.f35 = some sf35 := by kernel_rfl

/-- rosary/rosaryref1.flag -/
def sf36 : SFunc := ⟨1, 4, (.seq (.reg [⟨(some 2), .p .move, [.lit (.int .i64 0)], none⟩])
  (.seq (.seq (.reg [⟨(some 3), .p .move, [.tmp 0], none⟩])
  (.cond (.tmp 3) (.seq (.reg [⟨(some 2), .p .move, [.lit (.int .i64 1)], none⟩])
  .ret)
  .skip))
  (.seq (.reg [⟨(some 2), .p .move, [.lit (.int .i64 0)], none⟩])
  .ret))), [.tmp 2]⟩
theorem c36 : cFunc Go.Proofs.Tryz.prog false 1 Go.Proofs.Tryz.f36 = some sf36 := by kernel_rfl

/-- rosary/rosarybook.SameItems -/
def sf37 : SFunc := ⟨2, 27, (.seq (.reg [⟨(some 4), .p .move, [.lit (.bool false)], none⟩])
  (.seq (.seq (.reg [⟨(some 6), .p .move, [.tmp 0], none⟩,
    ⟨(some 7), .p .lenSl, [.tmp 6], none⟩,
    ⟨(some 8), .p .move, [.tmp 1], none⟩,
    ⟨(some 9), .p .lenSl, [.tmp 8], none⟩,
    ⟨(some 10), .p (.bin .neq), [.tmp 7, .tmp 9], none⟩])
  (.cond (.tmp 10) (.seq (.reg [⟨(some 4), .p .move, [.lit (.bool false)], none⟩])
  .ret)
  .skip))
  (.seq (.seq (.reg [⟨(some 5), .p .move, [.lit (.int .i64 0)], none⟩])
  (.block 0 (.loop [0, 1, 5] (.seq (.seq (.reg [⟨(some 11), .p .move, [.tmp 5], none⟩,
    ⟨(some 12), .p .move, [.tmp 0], none⟩,
    ⟨(some 13), .p .lenSl, [.tmp 12], none⟩,
    ⟨(some 14), .p (.bin .lss), [.tmp 11, .tmp 13], none⟩])
  (.cond (.tmp 14) .skip
  (.exit 0)))
  (.seq (.block 1 (.seq (.dreg [⟨[⟨(some 17), .p .move, [.tmp 0], none⟩,
    ⟨(some 18), .p .move, [.tmp 5], none⟩,
    ⟨(some 19), .p (.indexAddr 2), [.tmp 17, .tmp 18], none⟩,
    ⟨(some 20), .r (.load (some 2)), [.tmp 19], none⟩,
    ⟨(some 21), .p .move, [.tmp 1], none⟩,
    ⟨(some 22), .p .move, [.tmp 5], none⟩,
    ⟨(some 23), .p (.indexAddr 2), [.tmp 21, .tmp 22], none⟩,
    ⟨(some 24), .r (.load (some 2)), [.tmp 23], none⟩,
    ⟨(some 25), .p (.eq false (.agg [.str, .str])), [.tmp 20, .tmp 24], none⟩,
    ⟨(some 26), .p .not, [.tmp 25], none⟩], [], none⟩])
  (.cond (.tmp 26) (.seq (.reg [⟨(some 4), .p .move, [.lit (.bool false)], none⟩])
  .ret)
  .skip)))
  (.reg [⟨(some 15), .p .move, [.tmp 5], none⟩,
    ⟨(some 16), .p (.bin .add), [.tmp 15, .lit (.int .i64 1)], none⟩,
    ⟨(some 5), .p .move, [.tmp 16], none⟩]))))))
  (.seq (.reg [⟨(some 4), .p .move, [.lit (.bool true)], none⟩])
  .ret)))), [.tmp 4]⟩
theorem c37 : cFunc Go.Proofs.Tryz.prog false 2 Go.Proofs.Tryz.f37 = some sf37 := by kernel_rfl

/-- rosary/pack.From -/
def sf38 : SFunc := ⟨1, 6, (.seq (.reg [⟨(some 2), .p .move, [.lit .nilptr], none⟩])
  (.seq (.reg [⟨(some 3), .p .move, [.tmp 0], none⟩,
    ⟨(some 4), .p (.build [(.str []), (.bool false)] [(0, 1)]), [.tmp 3], none⟩,
    ⟨(some 5), .a .box, [.tmp 4], none⟩,
    ⟨(some 2), .p .move, [.tmp 5], none⟩])
  .ret)), [.tmp 2]⟩
theorem c38 : cFunc Go.Proofs.Tryz.prog false 1 Go.Proofs.Tryz.f38 = some sf38 := by kernel_rfl

/-- rosary/letter.read -/
def sf39 : SFunc := ⟨1, 74, (.seq (.reg [⟨(some 2), .a (.alloc [(.int .i64 0), (.int .i64 0), (.int .i64 0), (.int .i64 0), (.int .i64 0), (.str []), (.str []), (.str []), (.int .i64 0), (.int .i64 0), (.str []), .nilslice, (.bool false), (.str []), (.int .i64 0), (.int .u64 0), (.int .u64 0), (.int .i64 0), .nilslice, (.int .i64 0), (.int .i64 0)]), [], none⟩])
  (.seq (.reg [⟨(some 3), .a (.alloc [(.int .i64 0), (.int .i64 0), (.int .i64 0), (.int .i64 0), (.int .i64 0), (.str []), (.str []), (.str []), (.int .i64 0), (.int .i64 0), (.str []), .nilslice, (.bool false), (.str []), (.int .i64 0), (.int .u64 0), (.int .u64 0), (.int .i64 0), .nilslice, (.int .i64 0), (.int .i64 0)]), [], none⟩])
  (.seq (.reg [⟨(some 4), .p .move, [.tmp 0], none⟩,
    ⟨(some 5), .p (.fieldAddr 0), [.tmp 3], none⟩,
    ⟨(some 6), .p (.fieldAddr 1), [.tmp 3], none⟩,
    ⟨(some 7), .p (.fieldAddr 2), [.tmp 3], none⟩,
    ⟨(some 8), .p (.fieldAddr 3), [.tmp 3], none⟩,
    ⟨(some 9), .p (.fieldAddr 17), [.tmp 3], none⟩,
    ⟨(some 10), .p (.fieldAddr 19), [.tmp 3], none⟩,
    ⟨(some 11), .p (.fieldAddr 20), [.tmp 3], none⟩,
    ⟨(some 12), .a (.buildSlice 1 7 [.nilptr] [0, 1, 2, 3, 4, 5, 6]), [.tmp 5, .tmp 6, .tmp 7, .tmp 8, .tmp 9, .tmp 10, .tmp 11], none⟩,
    ⟨(some 13), .h (.call 83), [.tmp 4, .tmp 12], none⟩])
  (.seq (.reg [⟨(some 14), .p .move, [.tmp 0], none⟩,
    ⟨(some 15), .h (.call 84), [.tmp 14], none⟩,
    ⟨(some 16), .p (.fieldAddr 15), [.tmp 3], none⟩,
    ⟨(some 17), .p (.fieldAddr 0), [.tmp 16], none⟩,
    ⟨none, .h (.store 1), [.tmp 17, .tmp 15], none⟩])
  (.seq (.reg [⟨(some 18), .p .move, [.tmp 0], none⟩,
    ⟨(some 19), .h (.call 84), [.tmp 18], none⟩,
    ⟨(some 20), .p (.fieldAddr 15), [.tmp 3], none⟩,
    ⟨(some 21), .p (.fieldAddr 1), [.tmp 20], none⟩,
    ⟨none, .h (.store 1), [.tmp 21, .tmp 19], none⟩])
  (.seq (.reg [⟨(some 22), .p .move, [.tmp 0], none⟩,
    ⟨(some 23), .h (.call 85), [.tmp 22], none⟩,
    ⟨(some 24), .p (.fieldAddr 18), [.tmp 3], none⟩,
    ⟨none, .h (.store 1), [.tmp 24, .tmp 23], none⟩])
  (.seq (.reg [⟨(some 25), .p .move, [.tmp 0], none⟩,
    ⟨(some 26), .p (.fieldAddr 4), [.tmp 3], none⟩,
    ⟨(some 27), .p (.fieldAddr 0), [.tmp 26], none⟩,
    ⟨(some 28), .a (.buildSlice 1 1 [.nilptr] [0]), [.tmp 27], none⟩,
    ⟨(some 29), .h (.call 83), [.tmp 25, .tmp 28], none⟩])
  (.seq (.reg [⟨(some 30), .p .move, [.tmp 0], none⟩,
    ⟨(some 31), .h (.call 86), [.tmp 30], none⟩,
    ⟨(some 32), .p (.fieldAddr 4), [.tmp 3], none⟩,
    ⟨(some 33), .p (.fieldAddr 1), [.tmp 32], none⟩,
    ⟨none, .h (.store 1), [.tmp 33, .tmp 31], none⟩])
  (.seq (.reg [⟨(some 34), .p .move, [.tmp 0], none⟩,
    ⟨(some 35), .h (.call 86), [.tmp 34], none⟩,
    ⟨(some 36), .p (.fieldAddr 4), [.tmp 3], none⟩,
    ⟨(some 37), .p (.fieldAddr 2), [.tmp 36], none⟩,
    ⟨none, .h (.store 1), [.tmp 37, .tmp 35], none⟩])
  (.seq (.reg [⟨(some 38), .p .move, [.tmp 0], none⟩,
    ⟨(some 39), .h (.call 86), [.tmp 38], none⟩,
    ⟨(some 40), .p (.fieldAddr 4), [.tmp 3], none⟩,
    ⟨(some 41), .p (.fieldAddr 3), [.tmp 40], none⟩,
    ⟨none, .h (.store 1), [.tmp 41, .tmp 39], none⟩])
  (.seq (.reg [⟨(some 42), .p .move, [.tmp 0], none⟩,
    ⟨(some 43), .p (.fieldAddr 4), [.tmp 3], none⟩,
    ⟨(some 44), .p (.fieldAddr 4), [.tmp 43], none⟩,
    ⟨(some 45), .a (.buildSlice 1 1 [.nilptr] [0]), [.tmp 44], none⟩,
    ⟨(some 46), .h (.call 83), [.tmp 42, .tmp 45], none⟩])
  (.seq (.reg [⟨(some 47), .p .move, [.tmp 0], none⟩,
    ⟨(some 48), .h (.call 87), [.tmp 47], none⟩,
    ⟨(some 49), .p (.fieldAddr 9), [.tmp 3], none⟩,
    ⟨(some 50), .p (.fieldAddr 0), [.tmp 49], none⟩,
    ⟨none, .h (.store 1), [.tmp 50, .tmp 48], none⟩])
  (.seq (.reg [⟨(some 51), .p .move, [.tmp 0], none⟩,
    ⟨(some 52), .h (.call 86), [.tmp 51], none⟩,
    ⟨(some 53), .p (.fieldAddr 9), [.tmp 3], none⟩,
    ⟨(some 54), .p (.fieldAddr 1), [.tmp 53], none⟩,
    ⟨none, .h (.store 1), [.tmp 54, .tmp 52], none⟩])
  (.seq (.reg [⟨(some 55), .p .move, [.tmp 0], none⟩,
    ⟨(some 56), .h (.call 85), [.tmp 55], none⟩,
    ⟨(some 57), .p (.fieldAddr 9), [.tmp 3], none⟩,
    ⟨(some 58), .p (.fieldAddr 2), [.tmp 57], none⟩,
    ⟨none, .h (.store 1), [.tmp 58, .tmp 56], none⟩])
  (.seq (.reg [⟨(some 59), .p .move, [.tmp 0], none⟩,
    ⟨(some 60), .h (.call 87), [.tmp 59], none⟩,
    ⟨(some 61), .p (.bin .eql), [.tmp 60, .lit (.int .i64 1)], none⟩,
    ⟨(some 62), .p (.fieldAddr 9), [.tmp 3], none⟩,
    ⟨(some 63), .p (.fieldAddr 3), [.tmp 62], none⟩,
    ⟨none, .h (.store 1), [.tmp 63, .tmp 61], none⟩])
  (.seq (.reg [⟨(some 64), .p .move, [.tmp 0], none⟩,
    ⟨(some 65), .h (.call 86), [.tmp 64], none⟩,
    ⟨(some 66), .p (.fieldAddr 9), [.tmp 3], none⟩,
    ⟨(some 67), .p (.fieldAddr 4), [.tmp 66], none⟩,
    ⟨none, .h (.store 1), [.tmp 67, .tmp 65], none⟩])
  (.seq (.reg [⟨(some 68), .p .move, [.tmp 0], none⟩,
    ⟨(some 69), .p (.fieldAddr 9), [.tmp 3], none⟩,
    ⟨(some 70), .p (.fieldAddr 5), [.tmp 69], none⟩,
    ⟨(some 71), .a (.buildSlice 1 1 [.nilptr] [0]), [.tmp 70], none⟩,
    ⟨(some 72), .h (.call 83), [.tmp 68, .tmp 71], none⟩])
  (.seq (.reg [⟨(some 73), .r (.load (some 21)), [.tmp 3], none⟩,
    ⟨none, .h (.store 21), [.tmp 2, .tmp 73], none⟩])
  .ret)))))))))))))))))), [.cell 2 (some 21)]⟩
theorem c39 : cFunc Go.Proofs.Tryz.prog false 1 Go.Proofs.Tryz.f39 = some sf39 := by kernel_rfl

/-- (*rosary/pack.Reader).End -/
def sf40 : SFunc := ⟨1, 13, (.seq (.reg [⟨(some 2), .p .move, [.lit (.bool false)], none⟩])
  (.seq (.reg [⟨(some 3), .p .move, [.tmp 0], none⟩,
    ⟨(some 4), .h (.call 88), [.tmp 3], none⟩,
    ⟨(some 5), .p .not, [.tmp 4], none⟩,
    ⟨(some 6), .p .move, [.tmp 5], none⟩,
    ⟨(some 7), .p .move, [.tmp 0], some (6, true)⟩,
    ⟨(some 8), .p .nilCheck, [.tmp 7], some (6, true)⟩,
    ⟨(some 9), .p (.fieldAddr 0), [.tmp 8], some (6, true)⟩,
    ⟨(some 10), .r (.load none), [.tmp 9], some (6, true)⟩,
    ⟨(some 11), .p (.bin .eql), [.tmp 10, .lit (.str [])], some (6, true)⟩,
    ⟨(some 12), .p .pick, [.tmp 6, .tmp 11, .lit (.bool false)], none⟩,
    ⟨(some 2), .p .move, [.tmp 12], none⟩])
  .ret)), [.tmp 2]⟩
theorem c40 : cFunc Go.Proofs.Tryz.prog false 1 Go.Proofs.Tryz.f40 = some sf40 := by kernel_rfl

/-- (*rosary/rosaryref1.Reader).letter -/
def sf41 : SFunc := ⟨1, 82, (.seq (.reg [⟨(some 2), .a (.alloc [(.int .i64 0), (.int .i64 0), (.int .i64 0), (.int .i64 0), (.int .i64 0), (.str []), (.str []), (.str []), (.int .i64 0), (.int .i64 0), (.str []), .nilslice, (.bool false), (.str []), (.int .i64 0), (.int .u64 0), (.int .u64 0), (.int .i64 0), .nilslice, (.int .i64 0), (.int .i64 0)]), [], none⟩])
  (.seq (.reg [⟨(some 3), .a (.alloc [(.int .i64 0), (.int .i64 0), (.int .i64 0), (.int .i64 0), (.int .i64 0), (.str []), (.str []), (.str []), (.int .i64 0), (.int .i64 0), (.str []), .nilslice, (.bool false), (.str []), (.int .i64 0), (.int .u64 0), (.int .u64 0), (.int .i64 0), .nilslice, (.int .i64 0), (.int .i64 0)]), [], none⟩])
  (.seq (.reg [⟨(some 4), .p .move, [.tmp 0], none⟩,
    ⟨(some 5), .h (.call 89), [.tmp 4], none⟩,
    ⟨(some 6), .p .move, [.tmp 0], none⟩,
    ⟨(some 7), .h (.call 89), [.tmp 6], none⟩,
    ⟨(some 8), .p .move, [.tmp 0], none⟩,
    ⟨(some 9), .h (.call 89), [.tmp 8], none⟩,
    ⟨(some 10), .p .move, [.tmp 0], none⟩,
    ⟨(some 11), .h (.call 89), [.tmp 10], none⟩,
    ⟨(some 12), .p .move, [.tmp 0], none⟩,
    ⟨(some 13), .h (.call 89), [.tmp 12], none⟩,
    ⟨(some 14), .p .move, [.tmp 0], none⟩,
    ⟨(some 15), .h (.call 89), [.tmp 14], none⟩,
    ⟨(some 16), .p .move, [.tmp 0], none⟩,
    ⟨(some 17), .h (.call 89), [.tmp 16], none⟩,
    ⟨(some 18), .p (.fieldAddr 0), [.tmp 3], none⟩,
    ⟨none, .h (.store 1), [.tmp 18, .tmp 5], none⟩,
    ⟨(some 19), .p (.fieldAddr 1), [.tmp 3], none⟩,
    ⟨none, .h (.store 1), [.tmp 19, .tmp 7], none⟩,
    ⟨(some 20), .p (.fieldAddr 2), [.tmp 3], none⟩,
    ⟨none, .h (.store 1), [.tmp 20, .tmp 9], none⟩,
    ⟨(some 21), .p (.fieldAddr 3), [.tmp 3], none⟩,
    ⟨none, .h (.store 1), [.tmp 21, .tmp 11], none⟩,
    ⟨(some 22), .p (.fieldAddr 17), [.tmp 3], none⟩,
    ⟨none, .h (.store 1), [.tmp 22, .tmp 13], none⟩,
    ⟨(some 23), .p (.fieldAddr 19), [.tmp 3], none⟩,
    ⟨none, .h (.store 1), [.tmp 23, .tmp 15], none⟩,
    ⟨(some 24), .p (.fieldAddr 20), [.tmp 3], none⟩,
    ⟨none, .h (.store 1), [.tmp 24, .tmp 17], none⟩])
  (.seq (.reg [⟨(some 25), .p .move, [.tmp 0], none⟩,
    ⟨(some 26), .h (.call 90), [.tmp 25], none⟩,
    ⟨(some 27), .p .move, [.tmp 0], none⟩,
    ⟨(some 28), .h (.call 90), [.tmp 27], none⟩,
    ⟨(some 29), .p (.fieldAddr 15), [.tmp 3], none⟩,
    ⟨(some 30), .p (.fieldAddr 0), [.tmp 29], none⟩,
    ⟨none, .h (.store 1), [.tmp 30, .tmp 26], none⟩,
    ⟨(some 31), .p (.fieldAddr 15), [.tmp 3], none⟩,
    ⟨(some 32), .p (.fieldAddr 1), [.tmp 31], none⟩,
    ⟨none, .h (.store 1), [.tmp 32, .tmp 28], none⟩])
  (.seq (.reg [⟨(some 33), .p .move, [.tmp 0], none⟩,
    ⟨(some 34), .h (.call 91), [.tmp 33], none⟩,
    ⟨(some 35), .p (.fieldAddr 18), [.tmp 3], none⟩,
    ⟨none, .h (.store 1), [.tmp 35, .tmp 34], none⟩])
  (.seq (.reg [⟨(some 36), .p .move, [.tmp 0], none⟩,
    ⟨(some 37), .h (.call 89), [.tmp 36], none⟩,
    ⟨(some 38), .p .move, [.tmp 0], none⟩,
    ⟨(some 39), .h (.call 92), [.tmp 38], none⟩,
    ⟨(some 40), .p .move, [.tmp 0], none⟩,
    ⟨(some 41), .h (.call 92), [.tmp 40], none⟩,
    ⟨(some 42), .p .move, [.tmp 0], none⟩,
    ⟨(some 43), .h (.call 92), [.tmp 42], none⟩,
    ⟨(some 44), .p .move, [.tmp 0], none⟩,
    ⟨(some 45), .h (.call 89), [.tmp 44], none⟩,
    ⟨(some 46), .p (.fieldAddr 4), [.tmp 3], none⟩,
    ⟨(some 47), .p (.fieldAddr 0), [.tmp 46], none⟩,
    ⟨none, .h (.store 1), [.tmp 47, .tmp 37], none⟩,
    ⟨(some 48), .p (.fieldAddr 4), [.tmp 3], none⟩,
    ⟨(some 49), .p (.fieldAddr 1), [.tmp 48], none⟩,
    ⟨none, .h (.store 1), [.tmp 49, .tmp 39], none⟩,
    ⟨(some 50), .p (.fieldAddr 4), [.tmp 3], none⟩,
    ⟨(some 51), .p (.fieldAddr 2), [.tmp 50], none⟩,
    ⟨none, .h (.store 1), [.tmp 51, .tmp 41], none⟩,
    ⟨(some 52), .p (.fieldAddr 4), [.tmp 3], none⟩,
    ⟨(some 53), .p (.fieldAddr 3), [.tmp 52], none⟩,
    ⟨none, .h (.store 1), [.tmp 53, .tmp 43], none⟩,
    ⟨(some 54), .p (.fieldAddr 4), [.tmp 3], none⟩,
    ⟨(some 55), .p (.fieldAddr 4), [.tmp 54], none⟩,
    ⟨none, .h (.store 1), [.tmp 55, .tmp 45], none⟩])
  (.seq (.reg [⟨(some 56), .p .move, [.tmp 0], none⟩,
    ⟨(some 57), .h (.call 89), [.tmp 56], none⟩,
    ⟨(some 58), .p .move, [.tmp 0], none⟩,
    ⟨(some 59), .h (.call 92), [.tmp 58], none⟩,
    ⟨(some 60), .p (.fieldAddr 9), [.tmp 3], none⟩,
    ⟨(some 61), .p (.fieldAddr 0), [.tmp 60], none⟩,
    ⟨none, .h (.store 1), [.tmp 61, .tmp 57], none⟩,
    ⟨(some 62), .p (.fieldAddr 9), [.tmp 3], none⟩,
    ⟨(some 63), .p (.fieldAddr 1), [.tmp 62], none⟩,
    ⟨none, .h (.store 1), [.tmp 63, .tmp 59], none⟩])
  (.seq (.reg [⟨(some 64), .p .move, [.tmp 0], none⟩,
    ⟨(some 65), .h (.call 91), [.tmp 64], none⟩,
    ⟨(some 66), .p (.fieldAddr 9), [.tmp 3], none⟩,
    ⟨(some 67), .p (.fieldAddr 2), [.tmp 66], none⟩,
    ⟨none, .h (.store 1), [.tmp 67, .tmp 65], none⟩])
  (.seq (.reg [⟨(some 68), .p .move, [.tmp 0], none⟩,
    ⟨(some 69), .h (.call 89), [.tmp 68], none⟩,
    ⟨(some 70), .p (.bin .eql), [.tmp 69, .lit (.int .i64 1)], none⟩,
    ⟨(some 71), .p .move, [.tmp 0], none⟩,
    ⟨(some 72), .h (.call 92), [.tmp 71], none⟩,
    ⟨(some 73), .p .move, [.tmp 0], none⟩,
    ⟨(some 74), .h (.call 89), [.tmp 73], none⟩,
    ⟨(some 75), .p (.fieldAddr 9), [.tmp 3], none⟩,
    ⟨(some 76), .p (.fieldAddr 3), [.tmp 75], none⟩,
    ⟨none, .h (.store 1), [.tmp 76, .tmp 70], none⟩,
    ⟨(some 77), .p (.fieldAddr 9), [.tmp 3], none⟩,
    ⟨(some 78), .p (.fieldAddr 4), [.tmp 77], none⟩,
    ⟨none, .h (.store 1), [.tmp 78, .tmp 72], none⟩,
    ⟨(some 79), .p (.fieldAddr 9), [.tmp 3], none⟩,
    ⟨(some 80), .p (.fieldAddr 5), [.tmp 79], none⟩,
    ⟨none, .h (.store 1), [.tmp 80, .tmp 74], none⟩])
  (.seq (.reg [⟨(some 81), .r (.load (some 21)), [.tmp 3], none⟩,
    ⟨none, .h (.store 21), [.tmp 2, .tmp 81], none⟩])
  .ret)))))))))), [.cell 2 (some 21)]⟩
theorem c41 : cFunc Go.Proofs.Tryz.prog false 1 Go.Proofs.Tryz.f41 = some sf41 := by kernel_rfl

/-- rosary/rosarybook.SameTold -/
def sf42 : SFunc := ⟨2, 45, (.seq (.reg [⟨(some 2), .a .box, [.tmp 0], none⟩,
    ⟨(some 3), .a .box, [.tmp 1], none⟩,
    ⟨(some 4), .p .move, [.lit (.bool false)], none⟩])
  (.seq (.reg [⟨(some 5), .p (.fieldAddr 0), [.tmp 2], none⟩,
    ⟨(some 6), .r (.load none), [.tmp 5], none⟩,
    ⟨(some 7), .p (.fieldAddr 0), [.tmp 3], none⟩,
    ⟨(some 8), .r (.load none), [.tmp 7], none⟩,
    ⟨(some 9), .p (.bin .eql), [.tmp 6, .tmp 8], none⟩,
    ⟨(some 10), .p .move, [.tmp 9], none⟩,
    ⟨(some 11), .p (.fieldAddr 1), [.tmp 2], some (10, true)⟩,
    ⟨(some 12), .r (.load none), [.tmp 11], some (10, true)⟩,
    ⟨(some 13), .p (.fieldAddr 1), [.tmp 3], some (10, true)⟩,
    ⟨(some 14), .r (.load none), [.tmp 13], some (10, true)⟩,
    ⟨(some 15), .p (.bin .eql), [.tmp 12, .tmp 14], some (10, true)⟩,
    ⟨(some 16), .p .pick, [.tmp 10, .tmp 15, .lit (.bool false)], none⟩,
    ⟨(some 17), .p .move, [.tmp 16], none⟩,
    ⟨(some 18), .p (.fieldAddr 2), [.tmp 2], some (17, true)⟩,
    ⟨(some 19), .r (.load none), [.tmp 18], some (17, true)⟩,
    ⟨(some 20), .p (.fieldAddr 2), [.tmp 3], some (17, true)⟩,
    ⟨(some 21), .r (.load none), [.tmp 20], some (17, true)⟩,
    ⟨(some 22), .h (.call 37), [.tmp 19, .tmp 21], some (17, true)⟩,
    ⟨(some 23), .p .pick, [.tmp 17, .tmp 22, .lit (.bool false)], none⟩,
    ⟨(some 24), .p .move, [.tmp 23], none⟩,
    ⟨(some 25), .p (.fieldAddr 3), [.tmp 2], some (24, true)⟩,
    ⟨(some 26), .r (.load none), [.tmp 25], some (24, true)⟩,
    ⟨(some 27), .p (.fieldAddr 3), [.tmp 3], some (24, true)⟩,
    ⟨(some 28), .r (.load none), [.tmp 27], some (24, true)⟩,
    ⟨(some 29), .p (.eq false .bool), [.tmp 26, .tmp 28], some (24, true)⟩,
    ⟨(some 30), .p .pick, [.tmp 24, .tmp 29, .lit (.bool false)], none⟩,
    ⟨(some 31), .p .move, [.tmp 30], none⟩,
    ⟨(some 32), .p (.fieldAddr 4), [.tmp 2], some (31, true)⟩,
    ⟨(some 33), .r (.load none), [.tmp 32], some (31, true)⟩,
    ⟨(some 34), .p (.fieldAddr 4), [.tmp 3], some (31, true)⟩,
    ⟨(some 35), .r (.load none), [.tmp 34], some (31, true)⟩,
    ⟨(some 36), .p (.bin .eql), [.tmp 33, .tmp 35], some (31, true)⟩,
    ⟨(some 37), .p .pick, [.tmp 31, .tmp 36, .lit (.bool false)], none⟩,
    ⟨(some 38), .p .move, [.tmp 37], none⟩,
    ⟨(some 39), .p (.fieldAddr 5), [.tmp 2], some (38, true)⟩,
    ⟨(some 40), .r (.load none), [.tmp 39], some (38, true)⟩,
    ⟨(some 41), .p (.fieldAddr 5), [.tmp 3], some (38, true)⟩,
    ⟨(some 42), .r (.load none), [.tmp 41], some (38, true)⟩,
    ⟨(some 43), .p (.bin .eql), [.tmp 40, .tmp 42], some (38, true)⟩,
    ⟨(some 44), .p .pick, [.tmp 38, .tmp 43, .lit (.bool false)], none⟩,
    ⟨(some 4), .p .move, [.tmp 44], none⟩])
  .ret)), [.tmp 4]⟩
theorem c42 : cFunc Go.Proofs.Tryz.prog false 2 Go.Proofs.Tryz.f42 = some sf42 := by kernel_rfl

/-- (*rosary/rosarybook.Book).stillTexts -/
def sf44 : SFunc := ⟨1, 29, (.seq (.reg [⟨(some 2), .p .move, [.lit (.bool false)], none⟩])
  (.seq (.seq (.reg [⟨(some 3), .p .move, [.lit (.int .i64 0)], none⟩])
  (.block 0 (.loop [0, 3] (.seq (.seq (.reg [⟨(some 4), .p .move, [.tmp 3], none⟩,
    ⟨(some 5), .p .move, [.tmp 0], none⟩,
    ⟨(some 6), .p .nilCheck, [.tmp 5], none⟩,
    ⟨(some 7), .p (.fieldAddr 0), [.tmp 6], none⟩,
    ⟨(some 8), .r (.load none), [.tmp 7], none⟩,
    ⟨(some 9), .p .lenSl, [.tmp 8], none⟩,
    ⟨(some 10), .p (.bin .lss), [.tmp 4, .tmp 9], none⟩])
  (.cond (.tmp 10) .skip
  (.exit 0)))
  (.seq (.block 1 (.seq (.dreg [⟨[⟨(some 13), .p .move, [.tmp 0], none⟩,
    ⟨(some 14), .p .nilCheck, [.tmp 13], none⟩,
    ⟨(some 15), .p (.fieldAddr 0), [.tmp 14], none⟩,
    ⟨(some 16), .r (.load none), [.tmp 15], none⟩,
    ⟨(some 17), .p .move, [.tmp 3], none⟩,
    ⟨(some 18), .p (.indexAddr 1), [.tmp 16, .tmp 17], none⟩,
    ⟨(some 19), .r (.load none), [.tmp 18], none⟩,
    ⟨(some 20), .p .move, [.tmp 0], none⟩,
    ⟨(some 21), .p .nilCheck, [.tmp 20], none⟩,
    ⟨(some 22), .p (.fieldAddr 1), [.tmp 21], none⟩,
    ⟨(some 23), .r (.load none), [.tmp 22], none⟩,
    ⟨(some 24), .p .move, [.tmp 3], none⟩,
    ⟨(some 25), .p (.indexAddr 1), [.tmp 23, .tmp 24], none⟩,
    ⟨(some 26), .r (.load none), [.tmp 25], none⟩], [], some ⟨(some 27), .h (.call 95), [.tmp 19, .tmp 26], none⟩⟩,
   ⟨[⟨(some 28), .p .not, [.tmp 27], none⟩], [], none⟩])
  (.cond (.tmp 28) (.seq (.reg [⟨(some 2), .p .move, [.lit (.bool false)], none⟩])
  .ret)
  .skip)))
  (.reg [⟨(some 11), .p .move, [.tmp 3], none⟩,
    ⟨(some 12), .p (.bin .add), [.tmp 11, .lit (.int .i64 1)], none⟩,
    ⟨(some 3), .p .move, [.tmp 12], none⟩]))))))
  (.seq (.reg [⟨(some 2), .p .move, [.lit (.bool true)], none⟩])
  .ret))), [.tmp 2]⟩
theorem c44 : cFunc Go.Proofs.Tryz.prog false 1 Go.Proofs.Tryz.f44 = some sf44 := by kernel_rfl

/-- (*rosary/rosarybook.Book).stillInts -/
def sf45 : SFunc := ⟨1, 29, (.seq (.reg [⟨(some 2), .p .move, [.lit (.bool false)], none⟩])
  (.seq (.seq (.reg [⟨(some 3), .p .move, [.lit (.int .i64 0)], none⟩])
  (.block 0 (.loop [0, 3] (.seq (.seq (.reg [⟨(some 4), .p .move, [.tmp 3], none⟩,
    ⟨(some 5), .p .move, [.tmp 0], none⟩,
    ⟨(some 6), .p .nilCheck, [.tmp 5], none⟩,
    ⟨(some 7), .p (.fieldAddr 2), [.tmp 6], none⟩,
    ⟨(some 8), .r (.load none), [.tmp 7], none⟩,
    ⟨(some 9), .p .lenSl, [.tmp 8], none⟩,
    ⟨(some 10), .p (.bin .lss), [.tmp 4, .tmp 9], none⟩])
  (.cond (.tmp 10) .skip
  (.exit 0)))
  (.seq (.block 1 (.seq (.dreg [⟨[⟨(some 13), .p .move, [.tmp 0], none⟩,
    ⟨(some 14), .p .nilCheck, [.tmp 13], none⟩,
    ⟨(some 15), .p (.fieldAddr 2), [.tmp 14], none⟩,
    ⟨(some 16), .r (.load none), [.tmp 15], none⟩,
    ⟨(some 17), .p .move, [.tmp 3], none⟩,
    ⟨(some 18), .p (.indexAddr 1), [.tmp 16, .tmp 17], none⟩,
    ⟨(some 19), .r (.load none), [.tmp 18], none⟩,
    ⟨(some 20), .p .move, [.tmp 0], none⟩,
    ⟨(some 21), .p .nilCheck, [.tmp 20], none⟩,
    ⟨(some 22), .p (.fieldAddr 3), [.tmp 21], none⟩,
    ⟨(some 23), .r (.load none), [.tmp 22], none⟩,
    ⟨(some 24), .p .move, [.tmp 3], none⟩,
    ⟨(some 25), .p (.indexAddr 1), [.tmp 23, .tmp 24], none⟩,
    ⟨(some 26), .r (.load none), [.tmp 25], none⟩], [], some ⟨(some 27), .h (.call 96), [.tmp 19, .tmp 26], none⟩⟩,
   ⟨[⟨(some 28), .p .not, [.tmp 27], none⟩], [], none⟩])
  (.cond (.tmp 28) (.seq (.reg [⟨(some 2), .p .move, [.lit (.bool false)], none⟩])
  .ret)
  .skip)))
  (.reg [⟨(some 11), .p .move, [.tmp 3], none⟩,
    ⟨(some 12), .p (.bin .add), [.tmp 11, .lit (.int .i64 1)], none⟩,
    ⟨(some 3), .p .move, [.tmp 12], none⟩]))))))
  (.seq (.reg [⟨(some 2), .p .move, [.lit (.bool true)], none⟩])
  .ret))), [.tmp 2]⟩
theorem c45 : cFunc Go.Proofs.Tryz.prog false 1 Go.Proofs.Tryz.f45 = some sf45 := by kernel_rfl

/-- (*rosary/rosarybook.Book).stillPoints -/
def sf46 : SFunc := ⟨1, 29, (.seq (.reg [⟨(some 2), .p .move, [.lit (.bool false)], none⟩])
  (.seq (.seq (.reg [⟨(some 3), .p .move, [.lit (.int .i64 0)], none⟩])
  (.block 0 (.loop [0, 3] (.seq (.seq (.reg [⟨(some 4), .p .move, [.tmp 3], none⟩,
    ⟨(some 5), .p .move, [.tmp 0], none⟩,
    ⟨(some 6), .p .nilCheck, [.tmp 5], none⟩,
    ⟨(some 7), .p (.fieldAddr 4), [.tmp 6], none⟩,
    ⟨(some 8), .r (.load none), [.tmp 7], none⟩,
    ⟨(some 9), .p .lenSl, [.tmp 8], none⟩,
    ⟨(some 10), .p (.bin .lss), [.tmp 4, .tmp 9], none⟩])
  (.cond (.tmp 10) .skip
  (.exit 0)))
  (.seq (.block 1 (.seq (.dreg [⟨[⟨(some 13), .p .move, [.tmp 0], none⟩,
    ⟨(some 14), .p .nilCheck, [.tmp 13], none⟩,
    ⟨(some 15), .p (.fieldAddr 4), [.tmp 14], none⟩,
    ⟨(some 16), .r (.load none), [.tmp 15], none⟩,
    ⟨(some 17), .p .move, [.tmp 3], none⟩,
    ⟨(some 18), .p (.indexAddr 1), [.tmp 16, .tmp 17], none⟩,
    ⟨(some 19), .r (.load none), [.tmp 18], none⟩,
    ⟨(some 20), .p .move, [.tmp 0], none⟩,
    ⟨(some 21), .p .nilCheck, [.tmp 20], none⟩,
    ⟨(some 22), .p (.fieldAddr 5), [.tmp 21], none⟩,
    ⟨(some 23), .r (.load none), [.tmp 22], none⟩,
    ⟨(some 24), .p .move, [.tmp 3], none⟩,
    ⟨(some 25), .p (.indexAddr 1), [.tmp 23, .tmp 24], none⟩,
    ⟨(some 26), .r (.load none), [.tmp 25], none⟩], [], some ⟨(some 27), .h (.call 97), [.tmp 19, .tmp 26], none⟩⟩,
   ⟨[⟨(some 28), .p .not, [.tmp 27], none⟩], [], none⟩])
  (.cond (.tmp 28) (.seq (.reg [⟨(some 2), .p .move, [.lit (.bool false)], none⟩])
  .ret)
  .skip)))
  (.reg [⟨(some 11), .p .move, [.tmp 3], none⟩,
    ⟨(some 12), .p (.bin .add), [.tmp 11, .lit (.int .i64 1)], none⟩,
    ⟨(some 3), .p .move, [.tmp 12], none⟩]))))))
  (.seq (.reg [⟨(some 2), .p .move, [.lit (.bool true)], none⟩])
  .ret))), [.tmp 2]⟩
theorem c46 : cFunc Go.Proofs.Tryz.prog false 1 Go.Proofs.Tryz.f46 = some sf46 := by kernel_rfl

/-- (*rosary/rosarybook.Book).stillItems -/
def sf47 : SFunc := ⟨1, 29, (.seq (.reg [⟨(some 2), .p .move, [.lit (.bool false)], none⟩])
  (.seq (.seq (.reg [⟨(some 3), .p .move, [.lit (.int .i64 0)], none⟩])
  (.block 0 (.loop [0, 3] (.seq (.seq (.reg [⟨(some 4), .p .move, [.tmp 3], none⟩,
    ⟨(some 5), .p .move, [.tmp 0], none⟩,
    ⟨(some 6), .p .nilCheck, [.tmp 5], none⟩,
    ⟨(some 7), .p (.fieldAddr 6), [.tmp 6], none⟩,
    ⟨(some 8), .r (.load none), [.tmp 7], none⟩,
    ⟨(some 9), .p .lenSl, [.tmp 8], none⟩,
    ⟨(some 10), .p (.bin .lss), [.tmp 4, .tmp 9], none⟩])
  (.cond (.tmp 10) .skip
  (.exit 0)))
  (.seq (.block 1 (.seq (.dreg [⟨[⟨(some 13), .p .move, [.tmp 0], none⟩,
    ⟨(some 14), .p .nilCheck, [.tmp 13], none⟩,
    ⟨(some 15), .p (.fieldAddr 6), [.tmp 14], none⟩,
    ⟨(some 16), .r (.load none), [.tmp 15], none⟩,
    ⟨(some 17), .p .move, [.tmp 3], none⟩,
    ⟨(some 18), .p (.indexAddr 1), [.tmp 16, .tmp 17], none⟩,
    ⟨(some 19), .r (.load none), [.tmp 18], none⟩,
    ⟨(some 20), .p .move, [.tmp 0], none⟩,
    ⟨(some 21), .p .nilCheck, [.tmp 20], none⟩,
    ⟨(some 22), .p (.fieldAddr 7), [.tmp 21], none⟩,
    ⟨(some 23), .r (.load none), [.tmp 22], none⟩,
    ⟨(some 24), .p .move, [.tmp 3], none⟩,
    ⟨(some 25), .p (.indexAddr 1), [.tmp 23, .tmp 24], none⟩,
    ⟨(some 26), .r (.load none), [.tmp 25], none⟩], [], some ⟨(some 27), .h (.call 37), [.tmp 19, .tmp 26], none⟩⟩,
   ⟨[⟨(some 28), .p .not, [.tmp 27], none⟩], [], none⟩])
  (.cond (.tmp 28) (.seq (.reg [⟨(some 2), .p .move, [.lit (.bool false)], none⟩])
  .ret)
  .skip)))
  (.reg [⟨(some 11), .p .move, [.tmp 3], none⟩,
    ⟨(some 12), .p (.bin .add), [.tmp 11, .lit (.int .i64 1)], none⟩,
    ⟨(some 3), .p .move, [.tmp 12], none⟩]))))))
  (.seq (.reg [⟨(some 2), .p .move, [.lit (.bool true)], none⟩])
  .ret))), [.tmp 2]⟩
theorem c47 : cFunc Go.Proofs.Tryz.prog false 1 Go.Proofs.Tryz.f47 = some sf47 := by kernel_rfl

/-- (*rosary/rosarybook.Book).stillOwneds -/
def sf48 : SFunc := ⟨1, 29, (.seq (.reg [⟨(some 2), .p .move, [.lit (.bool false)], none⟩])
  (.seq (.seq (.reg [⟨(some 3), .p .move, [.lit (.int .i64 0)], none⟩])
  (.block 0 (.loop [0, 3] (.seq (.seq (.reg [⟨(some 4), .p .move, [.tmp 3], none⟩,
    ⟨(some 5), .p .move, [.tmp 0], none⟩,
    ⟨(some 6), .p .nilCheck, [.tmp 5], none⟩,
    ⟨(some 7), .p (.fieldAddr 8), [.tmp 6], none⟩,
    ⟨(some 8), .r (.load none), [.tmp 7], none⟩,
    ⟨(some 9), .p .lenSl, [.tmp 8], none⟩,
    ⟨(some 10), .p (.bin .lss), [.tmp 4, .tmp 9], none⟩])
  (.cond (.tmp 10) .skip
  (.exit 0)))
  (.seq (.block 1 (.seq (.dreg [⟨[⟨(some 13), .p .move, [.tmp 0], none⟩,
    ⟨(some 14), .p .nilCheck, [.tmp 13], none⟩,
    ⟨(some 15), .p (.fieldAddr 8), [.tmp 14], none⟩,
    ⟨(some 16), .r (.load none), [.tmp 15], none⟩,
    ⟨(some 17), .p .move, [.tmp 3], none⟩,
    ⟨(some 18), .p (.indexAddr 1), [.tmp 16, .tmp 17], none⟩,
    ⟨(some 19), .r (.load none), [.tmp 18], none⟩,
    ⟨(some 20), .p .move, [.tmp 0], none⟩,
    ⟨(some 21), .p .nilCheck, [.tmp 20], none⟩,
    ⟨(some 22), .p (.fieldAddr 9), [.tmp 21], none⟩,
    ⟨(some 23), .r (.load none), [.tmp 22], none⟩,
    ⟨(some 24), .p .move, [.tmp 3], none⟩,
    ⟨(some 25), .p (.indexAddr 1), [.tmp 23, .tmp 24], none⟩,
    ⟨(some 26), .r (.load none), [.tmp 25], none⟩], [], some ⟨(some 27), .h (.call 98), [.tmp 19, .tmp 26], none⟩⟩,
   ⟨[⟨(some 28), .p .not, [.tmp 27], none⟩], [], none⟩])
  (.cond (.tmp 28) (.seq (.reg [⟨(some 2), .p .move, [.lit (.bool false)], none⟩])
  .ret)
  .skip)))
  (.reg [⟨(some 11), .p .move, [.tmp 3], none⟩,
    ⟨(some 12), .p (.bin .add), [.tmp 11, .lit (.int .i64 1)], none⟩,
    ⟨(some 3), .p .move, [.tmp 12], none⟩]))))))
  (.seq (.reg [⟨(some 2), .p .move, [.lit (.bool true)], none⟩])
  .ret))), [.tmp 2]⟩
theorem c48 : cFunc Go.Proofs.Tryz.prog false 1 Go.Proofs.Tryz.f48 = some sf48 := by kernel_rfl

/-- (*rosary/rosarybook.Book).stillEvents -/
def sf49 : SFunc := ⟨1, 29, (.seq (.reg [⟨(some 2), .p .move, [.lit (.bool false)], none⟩])
  (.seq (.seq (.reg [⟨(some 3), .p .move, [.lit (.int .i64 0)], none⟩])
  (.block 0 (.loop [0, 3] (.seq (.seq (.reg [⟨(some 4), .p .move, [.tmp 3], none⟩,
    ⟨(some 5), .p .move, [.tmp 0], none⟩,
    ⟨(some 6), .p .nilCheck, [.tmp 5], none⟩,
    ⟨(some 7), .p (.fieldAddr 10), [.tmp 6], none⟩,
    ⟨(some 8), .r (.load none), [.tmp 7], none⟩,
    ⟨(some 9), .p .lenSl, [.tmp 8], none⟩,
    ⟨(some 10), .p (.bin .lss), [.tmp 4, .tmp 9], none⟩])
  (.cond (.tmp 10) .skip
  (.exit 0)))
  (.seq (.block 1 (.seq (.dreg [⟨[⟨(some 13), .p .move, [.tmp 0], none⟩,
    ⟨(some 14), .p .nilCheck, [.tmp 13], none⟩,
    ⟨(some 15), .p (.fieldAddr 10), [.tmp 14], none⟩,
    ⟨(some 16), .r (.load none), [.tmp 15], none⟩,
    ⟨(some 17), .p .move, [.tmp 3], none⟩,
    ⟨(some 18), .p (.indexAddr 1), [.tmp 16, .tmp 17], none⟩,
    ⟨(some 19), .r (.load none), [.tmp 18], none⟩,
    ⟨(some 20), .p .move, [.tmp 0], none⟩,
    ⟨(some 21), .p .nilCheck, [.tmp 20], none⟩,
    ⟨(some 22), .p (.fieldAddr 11), [.tmp 21], none⟩,
    ⟨(some 23), .r (.load none), [.tmp 22], none⟩,
    ⟨(some 24), .p .move, [.tmp 3], none⟩,
    ⟨(some 25), .p (.indexAddr 1), [.tmp 23, .tmp 24], none⟩,
    ⟨(some 26), .r (.load none), [.tmp 25], none⟩], [], some ⟨(some 27), .h (.call 99), [.tmp 19, .tmp 26], none⟩⟩,
   ⟨[⟨(some 28), .p .not, [.tmp 27], none⟩], [], none⟩])
  (.cond (.tmp 28) (.seq (.reg [⟨(some 2), .p .move, [.lit (.bool false)], none⟩])
  .ret)
  .skip)))
  (.reg [⟨(some 11), .p .move, [.tmp 3], none⟩,
    ⟨(some 12), .p (.bin .add), [.tmp 11, .lit (.int .i64 1)], none⟩,
    ⟨(some 3), .p .move, [.tmp 12], none⟩]))))))
  (.seq (.reg [⟨(some 2), .p .move, [.lit (.bool true)], none⟩])
  .ret))), [.tmp 2]⟩
theorem c49 : cFunc Go.Proofs.Tryz.prog false 1 Go.Proofs.Tryz.f49 = some sf49 := by kernel_rfl

/-- (*rosary/rosarybook.Book).stillLetters -/
def sf50 : SFunc := ⟨1, 29, (.seq (.reg [⟨(some 2), .p .move, [.lit (.bool false)], none⟩])
  (.seq (.seq (.reg [⟨(some 3), .p .move, [.lit (.int .i64 0)], none⟩])
  (.block 0 (.loop [0, 3] (.seq (.seq (.reg [⟨(some 4), .p .move, [.tmp 3], none⟩,
    ⟨(some 5), .p .move, [.tmp 0], none⟩,
    ⟨(some 6), .p .nilCheck, [.tmp 5], none⟩,
    ⟨(some 7), .p (.fieldAddr 12), [.tmp 6], none⟩,
    ⟨(some 8), .r (.load none), [.tmp 7], none⟩,
    ⟨(some 9), .p .lenSl, [.tmp 8], none⟩,
    ⟨(some 10), .p (.bin .lss), [.tmp 4, .tmp 9], none⟩])
  (.cond (.tmp 10) .skip
  (.exit 0)))
  (.seq (.block 1 (.seq (.dreg [⟨[⟨(some 13), .p .move, [.tmp 0], none⟩,
    ⟨(some 14), .p .nilCheck, [.tmp 13], none⟩,
    ⟨(some 15), .p (.fieldAddr 12), [.tmp 14], none⟩,
    ⟨(some 16), .r (.load none), [.tmp 15], none⟩,
    ⟨(some 17), .p .move, [.tmp 3], none⟩,
    ⟨(some 18), .p (.indexAddr 1), [.tmp 16, .tmp 17], none⟩,
    ⟨(some 19), .r (.load none), [.tmp 18], none⟩,
    ⟨(some 20), .p .move, [.tmp 0], none⟩,
    ⟨(some 21), .p .nilCheck, [.tmp 20], none⟩,
    ⟨(some 22), .p (.fieldAddr 13), [.tmp 21], none⟩,
    ⟨(some 23), .r (.load none), [.tmp 22], none⟩,
    ⟨(some 24), .p .move, [.tmp 3], none⟩,
    ⟨(some 25), .p (.indexAddr 1), [.tmp 23, .tmp 24], none⟩,
    ⟨(some 26), .r (.load none), [.tmp 25], none⟩], [], some ⟨(some 27), .h (.call 100), [.tmp 19, .tmp 26], none⟩⟩,
   ⟨[⟨(some 28), .p .not, [.tmp 27], none⟩], [], none⟩])
  (.cond (.tmp 28) (.seq (.reg [⟨(some 2), .p .move, [.lit (.bool false)], none⟩])
  .ret)
  .skip)))
  (.reg [⟨(some 11), .p .move, [.tmp 3], none⟩,
    ⟨(some 12), .p (.bin .add), [.tmp 11, .lit (.int .i64 1)], none⟩,
    ⟨(some 3), .p .move, [.tmp 12], none⟩]))))))
  (.seq (.reg [⟨(some 2), .p .move, [.lit (.bool true)], none⟩])
  .ret))), [.tmp 2]⟩
theorem c50 : cFunc Go.Proofs.Tryz.prog false 1 Go.Proofs.Tryz.f50 = some sf50 := by kernel_rfl

/-- (*rosary/rosarybook.Book).putEvents -/
def sf51 : SFunc := ⟨1, 43, (.seq (.reg [⟨(some 2), .p .move, [.lit (.int .i64 0)], none⟩])
  (.block 0 (.loop [0, 2] (.seq (.seq (.reg [⟨(some 5), .p .move, [.tmp 2], none⟩,
    ⟨(some 6), .p .move, [.tmp 0], none⟩,
    ⟨(some 7), .p .nilCheck, [.tmp 6], none⟩,
    ⟨(some 8), .p (.fieldAddr 10), [.tmp 7], none⟩,
    ⟨(some 9), .r (.load none), [.tmp 8], none⟩,
    ⟨(some 10), .p .lenSl, [.tmp 9], none⟩,
    ⟨(some 11), .p (.bin .lss), [.tmp 5, .tmp 10], none⟩])
  (.cond (.tmp 11) .skip
  (.exit 0)))
  (.seq (.block 1 (.seq (.reg [⟨(some 14), .p .move, [.tmp 2], none⟩,
    ⟨(some 15), .p .move, [.tmp 0], none⟩,
    ⟨(some 16), .p .nilCheck, [.tmp 15], none⟩,
    ⟨(some 17), .p (.fieldAddr 10), [.tmp 16], none⟩,
    ⟨(some 18), .r (.load none), [.tmp 17], none⟩,
    ⟨(some 19), .p .move, [.tmp 2], none⟩,
    ⟨(some 20), .p (.indexAddr 1), [.tmp 18, .tmp 19], none⟩,
    ⟨(some 21), .r (.load none), [.tmp 20], none⟩,
    ⟨(some 22), .p .lenSl, [.tmp 21], none⟩,
    ⟨(some 23), .h (.call 101), [.tmp 14, .lit (.int .i64 0), .tmp 22], none⟩,
    ⟨(some 3), .p .move, [.tmp 23], none⟩])
  (.seq (.reg [⟨(some 4), .p .move, [.lit (.int .i64 0)], none⟩])
  (.block 2 (.loop [0, 2, 3, 4] (.seq (.seq (.reg [⟨(some 24), .p .move, [.tmp 4], none⟩,
    ⟨(some 25), .p .move, [.tmp 3], none⟩,
    ⟨(some 26), .p .lenSl, [.tmp 25], none⟩,
    ⟨(some 27), .p (.bin .lss), [.tmp 24, .tmp 26], none⟩])
  (.cond (.tmp 27) .skip
  (.exit 2)))
  (.seq (.block 3 (.dreg [⟨[⟨(some 30), .p .move, [.tmp 0], none⟩,
    ⟨(some 31), .p .nilCheck, [.tmp 30], none⟩,
    ⟨(some 32), .p (.fieldAddr 10), [.tmp 31], none⟩,
    ⟨(some 33), .r (.load none), [.tmp 32], none⟩,
    ⟨(some 34), .p .move, [.tmp 2], none⟩,
    ⟨(some 35), .p (.indexAddr 1), [.tmp 33, .tmp 34], none⟩,
    ⟨(some 36), .r (.load none), [.tmp 35], none⟩,
    ⟨(some 37), .p .move, [.tmp 4], none⟩,
    ⟨(some 38), .p .move, [.tmp 3], none⟩,
    ⟨(some 39), .p .move, [.tmp 4], none⟩,
    ⟨(some 40), .p (.indexAddr 15), [.tmp 38, .tmp 39], none⟩,
    ⟨(some 41), .r (.load (some 15)), [.tmp 40], none⟩,
    ⟨(some 42), .p (.indexAddr 15), [.tmp 36, .tmp 37], none⟩], [], some ⟨none, .h (.store 15), [.tmp 42, .tmp 41], none⟩⟩,
   ⟨[], [], none⟩]))
  (.reg [⟨(some 28), .p .move, [.tmp 4], none⟩,
    ⟨(some 29), .p (.bin .add), [.tmp 28, .lit (.int .i64 1)], none⟩,
    ⟨(some 4), .p .move, [.tmp 29], none⟩]))))))))
  (.reg [⟨(some 12), .p .move, [.tmp 2], none⟩,
    ⟨(some 13), .p (.bin .add), [.tmp 12, .lit (.int .i64 1)], none⟩,
    ⟨(some 2), .p .move, [.tmp 13], none⟩])))))), []⟩
theorem c51 : cFunc Go.Proofs.Tryz.prog false 1 Go.Proofs.Tryz.f51 = some sf51 := by kernel_rfl

/-- (*rosary/rosarybook.Book).putLetters -/
def sf52 : SFunc := ⟨1, 43, (.seq (.reg [⟨(some 2), .p .move, [.lit (.int .i64 0)], none⟩])
  (.block 0 (.loop [0, 2] (.seq (.seq (.reg [⟨(some 5), .p .move, [.tmp 2], none⟩,
    ⟨(some 6), .p .move, [.tmp 0], none⟩,
    ⟨(some 7), .p .nilCheck, [.tmp 6], none⟩,
    ⟨(some 8), .p (.fieldAddr 12), [.tmp 7], none⟩,
    ⟨(some 9), .r (.load none), [.tmp 8], none⟩,
    ⟨(some 10), .p .lenSl, [.tmp 9], none⟩,
    ⟨(some 11), .p (.bin .lss), [.tmp 5, .tmp 10], none⟩])
  (.cond (.tmp 11) .skip
  (.exit 0)))
  (.seq (.block 1 (.seq (.reg [⟨(some 14), .p .move, [.tmp 2], none⟩,
    ⟨(some 15), .p .move, [.tmp 0], none⟩,
    ⟨(some 16), .p .nilCheck, [.tmp 15], none⟩,
    ⟨(some 17), .p (.fieldAddr 12), [.tmp 16], none⟩,
    ⟨(some 18), .r (.load none), [.tmp 17], none⟩,
    ⟨(some 19), .p .move, [.tmp 2], none⟩,
    ⟨(some 20), .p (.indexAddr 1), [.tmp 18, .tmp 19], none⟩,
    ⟨(some 21), .r (.load none), [.tmp 20], none⟩,
    ⟨(some 22), .p .lenSl, [.tmp 21], none⟩,
    ⟨(some 23), .h (.call 102), [.tmp 14, .lit (.int .i64 0), .tmp 22], none⟩,
    ⟨(some 3), .p .move, [.tmp 23], none⟩])
  (.seq (.reg [⟨(some 4), .p .move, [.lit (.int .i64 0)], none⟩])
  (.block 2 (.loop [0, 2, 3, 4] (.seq (.seq (.reg [⟨(some 24), .p .move, [.tmp 4], none⟩,
    ⟨(some 25), .p .move, [.tmp 3], none⟩,
    ⟨(some 26), .p .lenSl, [.tmp 25], none⟩,
    ⟨(some 27), .p (.bin .lss), [.tmp 24, .tmp 26], none⟩])
  (.cond (.tmp 27) .skip
  (.exit 2)))
  (.seq (.block 3 (.dreg [⟨[⟨(some 30), .p .move, [.tmp 0], none⟩,
    ⟨(some 31), .p .nilCheck, [.tmp 30], none⟩,
    ⟨(some 32), .p (.fieldAddr 12), [.tmp 31], none⟩,
    ⟨(some 33), .r (.load none), [.tmp 32], none⟩,
    ⟨(some 34), .p .move, [.tmp 2], none⟩,
    ⟨(some 35), .p (.indexAddr 1), [.tmp 33, .tmp 34], none⟩,
    ⟨(some 36), .r (.load none), [.tmp 35], none⟩,
    ⟨(some 37), .p .move, [.tmp 4], none⟩,
    ⟨(some 38), .p .move, [.tmp 3], none⟩,
    ⟨(some 39), .p .move, [.tmp 4], none⟩,
    ⟨(some 40), .p (.indexAddr 21), [.tmp 38, .tmp 39], none⟩,
    ⟨(some 41), .r (.load (some 21)), [.tmp 40], none⟩,
    ⟨(some 42), .p (.indexAddr 21), [.tmp 36, .tmp 37], none⟩], [], some ⟨none, .h (.store 21), [.tmp 42, .tmp 41], none⟩⟩,
   ⟨[], [], none⟩]))
  (.reg [⟨(some 28), .p .move, [.tmp 4], none⟩,
    ⟨(some 29), .p (.bin .add), [.tmp 28, .lit (.int .i64 1)], none⟩,
    ⟨(some 4), .p .move, [.tmp 29], none⟩]))))))))
  (.reg [⟨(some 12), .p .move, [.tmp 2], none⟩,
    ⟨(some 13), .p (.bin .add), [.tmp 12, .lit (.int .i64 1)], none⟩,
    ⟨(some 2), .p .move, [.tmp 13], none⟩])))))), []⟩
theorem c52 : cFunc Go.Proofs.Tryz.prog false 1 Go.Proofs.Tryz.f52 = some sf52 := by kernel_rfl

/-- (*rosary/rosarybook.Book).putTexts -/
def sf53 : SFunc := ⟨1, 43, (.seq (.reg [⟨(some 2), .p .move, [.lit (.int .i64 0)], none⟩])
  (.block 0 (.loop [0, 2] (.seq (.seq (.reg [⟨(some 5), .p .move, [.tmp 2], none⟩,
    ⟨(some 6), .p .move, [.tmp 0], none⟩,
    ⟨(some 7), .p .nilCheck, [.tmp 6], none⟩,
    ⟨(some 8), .p (.fieldAddr 0), [.tmp 7], none⟩,
    ⟨(some 9), .r (.load none), [.tmp 8], none⟩,
    ⟨(some 10), .p .lenSl, [.tmp 9], none⟩,
    ⟨(some 11), .p (.bin .lss), [.tmp 5, .tmp 10], none⟩])
  (.cond (.tmp 11) .skip
  (.exit 0)))
  (.seq (.block 1 (.seq (.reg [⟨(some 14), .p .move, [.tmp 2], none⟩,
    ⟨(some 15), .p .move, [.tmp 0], none⟩,
    ⟨(some 16), .p .nilCheck, [.tmp 15], none⟩,
    ⟨(some 17), .p (.fieldAddr 0), [.tmp 16], none⟩,
    ⟨(some 18), .r (.load none), [.tmp 17], none⟩,
    ⟨(some 19), .p .move, [.tmp 2], none⟩,
    ⟨(some 20), .p (.indexAddr 1), [.tmp 18, .tmp 19], none⟩,
    ⟨(some 21), .r (.load none), [.tmp 20], none⟩,
    ⟨(some 22), .p .lenSl, [.tmp 21], none⟩,
    ⟨(some 23), .h (.call 103), [.tmp 14, .lit (.int .i64 0), .tmp 22], none⟩,
    ⟨(some 3), .p .move, [.tmp 23], none⟩])
  (.seq (.reg [⟨(some 4), .p .move, [.lit (.int .i64 0)], none⟩])
  (.block 2 (.loop [0, 2, 3, 4] (.seq (.seq (.reg [⟨(some 24), .p .move, [.tmp 4], none⟩,
    ⟨(some 25), .p .move, [.tmp 3], none⟩,
    ⟨(some 26), .p .lenSl, [.tmp 25], none⟩,
    ⟨(some 27), .p (.bin .lss), [.tmp 24, .tmp 26], none⟩])
  (.cond (.tmp 27) .skip
  (.exit 2)))
  (.seq (.block 3 (.dreg [⟨[⟨(some 30), .p .move, [.tmp 0], none⟩,
    ⟨(some 31), .p .nilCheck, [.tmp 30], none⟩,
    ⟨(some 32), .p (.fieldAddr 0), [.tmp 31], none⟩,
    ⟨(some 33), .r (.load none), [.tmp 32], none⟩,
    ⟨(some 34), .p .move, [.tmp 2], none⟩,
    ⟨(some 35), .p (.indexAddr 1), [.tmp 33, .tmp 34], none⟩,
    ⟨(some 36), .r (.load none), [.tmp 35], none⟩,
    ⟨(some 37), .p .move, [.tmp 4], none⟩,
    ⟨(some 38), .p .move, [.tmp 3], none⟩,
    ⟨(some 39), .p .move, [.tmp 4], none⟩,
    ⟨(some 40), .p (.indexAddr 1), [.tmp 38, .tmp 39], none⟩,
    ⟨(some 41), .r (.load none), [.tmp 40], none⟩,
    ⟨(some 42), .p (.indexAddr 1), [.tmp 36, .tmp 37], none⟩], [], some ⟨none, .h (.store 1), [.tmp 42, .tmp 41], none⟩⟩,
   ⟨[], [], none⟩]))
  (.reg [⟨(some 28), .p .move, [.tmp 4], none⟩,
    ⟨(some 29), .p (.bin .add), [.tmp 28, .lit (.int .i64 1)], none⟩,
    ⟨(some 4), .p .move, [.tmp 29], none⟩]))))))))
  (.reg [⟨(some 12), .p .move, [.tmp 2], none⟩,
    ⟨(some 13), .p (.bin .add), [.tmp 12, .lit (.int .i64 1)], none⟩,
    ⟨(some 2), .p .move, [.tmp 13], none⟩])))))), []⟩
theorem c53 : cFunc Go.Proofs.Tryz.prog false 1 Go.Proofs.Tryz.f53 = some sf53 := by kernel_rfl

/-- (*rosary/rosarybook.Book).putInts -/
def sf54 : SFunc := ⟨1, 43, (.seq (.reg [⟨(some 2), .p .move, [.lit (.int .i64 0)], none⟩])
  (.block 0 (.loop [0, 2] (.seq (.seq (.reg [⟨(some 5), .p .move, [.tmp 2], none⟩,
    ⟨(some 6), .p .move, [.tmp 0], none⟩,
    ⟨(some 7), .p .nilCheck, [.tmp 6], none⟩,
    ⟨(some 8), .p (.fieldAddr 2), [.tmp 7], none⟩,
    ⟨(some 9), .r (.load none), [.tmp 8], none⟩,
    ⟨(some 10), .p .lenSl, [.tmp 9], none⟩,
    ⟨(some 11), .p (.bin .lss), [.tmp 5, .tmp 10], none⟩])
  (.cond (.tmp 11) .skip
  (.exit 0)))
  (.seq (.block 1 (.seq (.reg [⟨(some 14), .p .move, [.tmp 2], none⟩,
    ⟨(some 15), .p .move, [.tmp 0], none⟩,
    ⟨(some 16), .p .nilCheck, [.tmp 15], none⟩,
    ⟨(some 17), .p (.fieldAddr 2), [.tmp 16], none⟩,
    ⟨(some 18), .r (.load none), [.tmp 17], none⟩,
    ⟨(some 19), .p .move, [.tmp 2], none⟩,
    ⟨(some 20), .p (.indexAddr 1), [.tmp 18, .tmp 19], none⟩,
    ⟨(some 21), .r (.load none), [.tmp 20], none⟩,
    ⟨(some 22), .p .lenSl, [.tmp 21], none⟩,
    ⟨(some 23), .h (.call 104), [.tmp 14, .lit (.int .i64 0), .tmp 22], none⟩,
    ⟨(some 3), .p .move, [.tmp 23], none⟩])
  (.seq (.reg [⟨(some 4), .p .move, [.lit (.int .i64 0)], none⟩])
  (.block 2 (.loop [0, 2, 3, 4] (.seq (.seq (.reg [⟨(some 24), .p .move, [.tmp 4], none⟩,
    ⟨(some 25), .p .move, [.tmp 3], none⟩,
    ⟨(some 26), .p .lenSl, [.tmp 25], none⟩,
    ⟨(some 27), .p (.bin .lss), [.tmp 24, .tmp 26], none⟩])
  (.cond (.tmp 27) .skip
  (.exit 2)))
  (.seq (.block 3 (.dreg [⟨[⟨(some 30), .p .move, [.tmp 0], none⟩,
    ⟨(some 31), .p .nilCheck, [.tmp 30], none⟩,
    ⟨(some 32), .p (.fieldAddr 2), [.tmp 31], none⟩,
    ⟨(some 33), .r (.load none), [.tmp 32], none⟩,
    ⟨(some 34), .p .move, [.tmp 2], none⟩,
    ⟨(some 35), .p (.indexAddr 1), [.tmp 33, .tmp 34], none⟩,
    ⟨(some 36), .r (.load none), [.tmp 35], none⟩,
    ⟨(some 37), .p .move, [.tmp 4], none⟩,
    ⟨(some 38), .p .move, [.tmp 3], none⟩,
    ⟨(some 39), .p .move, [.tmp 4], none⟩,
    ⟨(some 40), .p (.indexAddr 1), [.tmp 38, .tmp 39], none⟩,
    ⟨(some 41), .r (.load none), [.tmp 40], none⟩,
    ⟨(some 42), .p (.indexAddr 1), [.tmp 36, .tmp 37], none⟩], [], some ⟨none, .h (.store 1), [.tmp 42, .tmp 41], none⟩⟩,
   ⟨[], [], none⟩]))
  (.reg [⟨(some 28), .p .move, [.tmp 4], none⟩,
    ⟨(some 29), .p (.bin .add), [.tmp 28, .lit (.int .i64 1)], none⟩,
    ⟨(some 4), .p .move, [.tmp 29], none⟩]))))))))
  (.reg [⟨(some 12), .p .move, [.tmp 2], none⟩,
    ⟨(some 13), .p (.bin .add), [.tmp 12, .lit (.int .i64 1)], none⟩,
    ⟨(some 2), .p .move, [.tmp 13], none⟩])))))), []⟩
theorem c54 : cFunc Go.Proofs.Tryz.prog false 1 Go.Proofs.Tryz.f54 = some sf54 := by kernel_rfl

/-- (*rosary/rosarybook.Book).putPoints -/
def sf55 : SFunc := ⟨1, 43, (.seq (.reg [⟨(some 2), .p .move, [.lit (.int .i64 0)], none⟩])
  (.block 0 (.loop [0, 2] (.seq (.seq (.reg [⟨(some 5), .p .move, [.tmp 2], none⟩,
    ⟨(some 6), .p .move, [.tmp 0], none⟩,
    ⟨(some 7), .p .nilCheck, [.tmp 6], none⟩,
    ⟨(some 8), .p (.fieldAddr 4), [.tmp 7], none⟩,
    ⟨(some 9), .r (.load none), [.tmp 8], none⟩,
    ⟨(some 10), .p .lenSl, [.tmp 9], none⟩,
    ⟨(some 11), .p (.bin .lss), [.tmp 5, .tmp 10], none⟩])
  (.cond (.tmp 11) .skip
  (.exit 0)))
  (.seq (.block 1 (.seq (.reg [⟨(some 14), .p .move, [.tmp 2], none⟩,
    ⟨(some 15), .p .move, [.tmp 0], none⟩,
    ⟨(some 16), .p .nilCheck, [.tmp 15], none⟩,
    ⟨(some 17), .p (.fieldAddr 4), [.tmp 16], none⟩,
    ⟨(some 18), .r (.load none), [.tmp 17], none⟩,
    ⟨(some 19), .p .move, [.tmp 2], none⟩,
    ⟨(some 20), .p (.indexAddr 1), [.tmp 18, .tmp 19], none⟩,
    ⟨(some 21), .r (.load none), [.tmp 20], none⟩,
    ⟨(some 22), .p .lenSl, [.tmp 21], none⟩,
    ⟨(some 23), .h (.call 105), [.tmp 14, .lit (.int .i64 0), .tmp 22], none⟩,
    ⟨(some 3), .p .move, [.tmp 23], none⟩])
  (.seq (.reg [⟨(some 4), .p .move, [.lit (.int .i64 0)], none⟩])
  (.block 2 (.loop [0, 2, 3, 4] (.seq (.seq (.reg [⟨(some 24), .p .move, [.tmp 4], none⟩,
    ⟨(some 25), .p .move, [.tmp 3], none⟩,
    ⟨(some 26), .p .lenSl, [.tmp 25], none⟩,
    ⟨(some 27), .p (.bin .lss), [.tmp 24, .tmp 26], none⟩])
  (.cond (.tmp 27) .skip
  (.exit 2)))
  (.seq (.block 3 (.dreg [⟨[⟨(some 30), .p .move, [.tmp 0], none⟩,
    ⟨(some 31), .p .nilCheck, [.tmp 30], none⟩,
    ⟨(some 32), .p (.fieldAddr 4), [.tmp 31], none⟩,
    ⟨(some 33), .r (.load none), [.tmp 32], none⟩,
    ⟨(some 34), .p .move, [.tmp 2], none⟩,
    ⟨(some 35), .p (.indexAddr 1), [.tmp 33, .tmp 34], none⟩,
    ⟨(some 36), .r (.load none), [.tmp 35], none⟩,
    ⟨(some 37), .p .move, [.tmp 4], none⟩,
    ⟨(some 38), .p .move, [.tmp 3], none⟩,
    ⟨(some 39), .p .move, [.tmp 4], none⟩,
    ⟨(some 40), .p (.indexAddr 1), [.tmp 38, .tmp 39], none⟩,
    ⟨(some 41), .r (.load none), [.tmp 40], none⟩,
    ⟨(some 42), .p (.indexAddr 1), [.tmp 36, .tmp 37], none⟩], [], some ⟨none, .h (.store 1), [.tmp 42, .tmp 41], none⟩⟩,
   ⟨[], [], none⟩]))
  (.reg [⟨(some 28), .p .move, [.tmp 4], none⟩,
    ⟨(some 29), .p (.bin .add), [.tmp 28, .lit (.int .i64 1)], none⟩,
    ⟨(some 4), .p .move, [.tmp 29], none⟩]))))))))
  (.reg [⟨(some 12), .p .move, [.tmp 2], none⟩,
    ⟨(some 13), .p (.bin .add), [.tmp 12, .lit (.int .i64 1)], none⟩,
    ⟨(some 2), .p .move, [.tmp 13], none⟩])))))), []⟩
theorem c55 : cFunc Go.Proofs.Tryz.prog false 1 Go.Proofs.Tryz.f55 = some sf55 := by kernel_rfl

/-- (*rosary/rosarybook.Book).putItems -/
def sf56 : SFunc := ⟨1, 43, (.seq (.reg [⟨(some 2), .p .move, [.lit (.int .i64 0)], none⟩])
  (.block 0 (.loop [0, 2] (.seq (.seq (.reg [⟨(some 5), .p .move, [.tmp 2], none⟩,
    ⟨(some 6), .p .move, [.tmp 0], none⟩,
    ⟨(some 7), .p .nilCheck, [.tmp 6], none⟩,
    ⟨(some 8), .p (.fieldAddr 6), [.tmp 7], none⟩,
    ⟨(some 9), .r (.load none), [.tmp 8], none⟩,
    ⟨(some 10), .p .lenSl, [.tmp 9], none⟩,
    ⟨(some 11), .p (.bin .lss), [.tmp 5, .tmp 10], none⟩])
  (.cond (.tmp 11) .skip
  (.exit 0)))
  (.seq (.block 1 (.seq (.reg [⟨(some 14), .p .move, [.tmp 2], none⟩,
    ⟨(some 15), .p .move, [.tmp 0], none⟩,
    ⟨(some 16), .p .nilCheck, [.tmp 15], none⟩,
    ⟨(some 17), .p (.fieldAddr 6), [.tmp 16], none⟩,
    ⟨(some 18), .r (.load none), [.tmp 17], none⟩,
    ⟨(some 19), .p .move, [.tmp 2], none⟩,
    ⟨(some 20), .p (.indexAddr 1), [.tmp 18, .tmp 19], none⟩,
    ⟨(some 21), .r (.load none), [.tmp 20], none⟩,
    ⟨(some 22), .p .lenSl, [.tmp 21], none⟩,
    ⟨(some 23), .h (.call 106), [.tmp 14, .lit (.int .i64 0), .tmp 22], none⟩,
    ⟨(some 3), .p .move, [.tmp 23], none⟩])
  (.seq (.reg [⟨(some 4), .p .move, [.lit (.int .i64 0)], none⟩])
  (.block 2 (.loop [0, 2, 3, 4] (.seq (.seq (.reg [⟨(some 24), .p .move, [.tmp 4], none⟩,
    ⟨(some 25), .p .move, [.tmp 3], none⟩,
    ⟨(some 26), .p .lenSl, [.tmp 25], none⟩,
    ⟨(some 27), .p (.bin .lss), [.tmp 24, .tmp 26], none⟩])
  (.cond (.tmp 27) .skip
  (.exit 2)))
  (.seq (.block 3 (.dreg [⟨[⟨(some 30), .p .move, [.tmp 0], none⟩,
    ⟨(some 31), .p .nilCheck, [.tmp 30], none⟩,
    ⟨(some 32), .p (.fieldAddr 6), [.tmp 31], none⟩,
    ⟨(some 33), .r (.load none), [.tmp 32], none⟩,
    ⟨(some 34), .p .move, [.tmp 2], none⟩,
    ⟨(some 35), .p (.indexAddr 1), [.tmp 33, .tmp 34], none⟩,
    ⟨(some 36), .r (.load none), [.tmp 35], none⟩,
    ⟨(some 37), .p .move, [.tmp 4], none⟩,
    ⟨(some 38), .p .move, [.tmp 3], none⟩,
    ⟨(some 39), .p .move, [.tmp 4], none⟩,
    ⟨(some 40), .p (.indexAddr 2), [.tmp 38, .tmp 39], none⟩,
    ⟨(some 41), .r (.load (some 2)), [.tmp 40], none⟩,
    ⟨(some 42), .p (.indexAddr 2), [.tmp 36, .tmp 37], none⟩], [], some ⟨none, .h (.store 2), [.tmp 42, .tmp 41], none⟩⟩,
   ⟨[], [], none⟩]))
  (.reg [⟨(some 28), .p .move, [.tmp 4], none⟩,
    ⟨(some 29), .p (.bin .add), [.tmp 28, .lit (.int .i64 1)], none⟩,
    ⟨(some 4), .p .move, [.tmp 29], none⟩]))))))))
  (.reg [⟨(some 12), .p .move, [.tmp 2], none⟩,
    ⟨(some 13), .p (.bin .add), [.tmp 12, .lit (.int .i64 1)], none⟩,
    ⟨(some 2), .p .move, [.tmp 13], none⟩])))))), []⟩
theorem c56 : cFunc Go.Proofs.Tryz.prog false 1 Go.Proofs.Tryz.f56 = some sf56 := by kernel_rfl

/-- (*rosary/rosarybook.Book).putOwneds -/
def sf57 : SFunc := ⟨1, 43, (.seq (.reg [⟨(some 2), .p .move, [.lit (.int .i64 0)], none⟩])
  (.block 0 (.loop [0, 2] (.seq (.seq (.reg [⟨(some 5), .p .move, [.tmp 2], none⟩,
    ⟨(some 6), .p .move, [.tmp 0], none⟩,
    ⟨(some 7), .p .nilCheck, [.tmp 6], none⟩,
    ⟨(some 8), .p (.fieldAddr 8), [.tmp 7], none⟩,
    ⟨(some 9), .r (.load none), [.tmp 8], none⟩,
    ⟨(some 10), .p .lenSl, [.tmp 9], none⟩,
    ⟨(some 11), .p (.bin .lss), [.tmp 5, .tmp 10], none⟩])
  (.cond (.tmp 11) .skip
  (.exit 0)))
  (.seq (.block 1 (.seq (.reg [⟨(some 14), .p .move, [.tmp 2], none⟩,
    ⟨(some 15), .p .move, [.tmp 0], none⟩,
    ⟨(some 16), .p .nilCheck, [.tmp 15], none⟩,
    ⟨(some 17), .p (.fieldAddr 8), [.tmp 16], none⟩,
    ⟨(some 18), .r (.load none), [.tmp 17], none⟩,
    ⟨(some 19), .p .move, [.tmp 2], none⟩,
    ⟨(some 20), .p (.indexAddr 1), [.tmp 18, .tmp 19], none⟩,
    ⟨(some 21), .r (.load none), [.tmp 20], none⟩,
    ⟨(some 22), .p .lenSl, [.tmp 21], none⟩,
    ⟨(some 23), .h (.call 107), [.tmp 14, .lit (.int .i64 0), .tmp 22], none⟩,
    ⟨(some 3), .p .move, [.tmp 23], none⟩])
  (.seq (.reg [⟨(some 4), .p .move, [.lit (.int .i64 0)], none⟩])
  (.block 2 (.loop [0, 2, 3, 4] (.seq (.seq (.reg [⟨(some 24), .p .move, [.tmp 4], none⟩,
    ⟨(some 25), .p .move, [.tmp 3], none⟩,
    ⟨(some 26), .p .lenSl, [.tmp 25], none⟩,
    ⟨(some 27), .p (.bin .lss), [.tmp 24, .tmp 26], none⟩])
  (.cond (.tmp 27) .skip
  (.exit 2)))
  (.seq (.block 3 (.dreg [⟨[⟨(some 30), .p .move, [.tmp 0], none⟩,
    ⟨(some 31), .p .nilCheck, [.tmp 30], none⟩,
    ⟨(some 32), .p (.fieldAddr 8), [.tmp 31], none⟩,
    ⟨(some 33), .r (.load none), [.tmp 32], none⟩,
    ⟨(some 34), .p .move, [.tmp 2], none⟩,
    ⟨(some 35), .p (.indexAddr 1), [.tmp 33, .tmp 34], none⟩,
    ⟨(some 36), .r (.load none), [.tmp 35], none⟩,
    ⟨(some 37), .p .move, [.tmp 4], none⟩,
    ⟨(some 38), .p .move, [.tmp 3], none⟩,
    ⟨(some 39), .p .move, [.tmp 4], none⟩,
    ⟨(some 40), .p (.indexAddr 4), [.tmp 38, .tmp 39], none⟩,
    ⟨(some 41), .r (.load (some 4)), [.tmp 40], none⟩,
    ⟨(some 42), .p (.indexAddr 4), [.tmp 36, .tmp 37], none⟩], [], some ⟨none, .h (.store 4), [.tmp 42, .tmp 41], none⟩⟩,
   ⟨[], [], none⟩]))
  (.reg [⟨(some 28), .p .move, [.tmp 4], none⟩,
    ⟨(some 29), .p (.bin .add), [.tmp 28, .lit (.int .i64 1)], none⟩,
    ⟨(some 4), .p .move, [.tmp 29], none⟩]))))))))
  (.reg [⟨(some 12), .p .move, [.tmp 2], none⟩,
    ⟨(some 13), .p (.bin .add), [.tmp 12, .lit (.int .i64 1)], none⟩,
    ⟨(some 2), .p .move, [.tmp 13], none⟩])))))), []⟩
theorem c57 : cFunc Go.Proofs.Tryz.prog false 1 Go.Proofs.Tryz.f57 = some sf57 := by kernel_rfl

/-- (*rosary/rosarybook.Book).growTexts -/
def sf58 : SFunc := ⟨1, 43, (.seq (.reg [⟨(some 2), .p .move, [.lit .nilslice], none⟩])
  (.seq (.reg [⟨(some 3), .p .move, [.lit .nilslice], none⟩])
  (.seq (.seq (.reg [⟨(some 4), .p .move, [.lit (.int .i64 0)], none⟩])
  (.block 0 (.loop [0, 3, 4] (.seq (.seq (.reg [⟨(some 7), .p .move, [.tmp 4], none⟩,
    ⟨(some 8), .p .move, [.tmp 0], none⟩,
    ⟨(some 9), .p .nilCheck, [.tmp 8], none⟩,
    ⟨(some 10), .p (.fieldAddr 0), [.tmp 9], none⟩,
    ⟨(some 11), .r (.load none), [.tmp 10], none⟩,
    ⟨(some 12), .p .lenSl, [.tmp 11], none⟩,
    ⟨(some 13), .p (.bin .lss), [.tmp 7, .tmp 12], none⟩])
  (.cond (.tmp 13) .skip
  (.exit 0)))
  (.seq (.block 1 (.seq (.reg [⟨(some 16), .p .move, [.tmp 0], none⟩,
    ⟨(some 17), .p .nilCheck, [.tmp 16], none⟩,
    ⟨(some 18), .p (.fieldAddr 0), [.tmp 17], none⟩,
    ⟨(some 19), .r (.load none), [.tmp 18], none⟩,
    ⟨(some 20), .p .move, [.tmp 4], none⟩,
    ⟨(some 21), .p (.indexAddr 1), [.tmp 19, .tmp 20], none⟩,
    ⟨(some 22), .r (.load none), [.tmp 21], none⟩,
    ⟨(some 5), .p .move, [.tmp 22], none⟩])
  (.seq (.seq (.reg [⟨(some 6), .p .move, [.lit (.int .i64 0)], none⟩])
  (.block 2 (.loop [0, 3, 4, 5, 6] (.seq (.seq (.reg [⟨(some 23), .p .move, [.tmp 6], none⟩,
    ⟨(some 24), .p (.bin .lss), [.tmp 23, .lit (.int .i64 12)], none⟩])
  (.cond (.tmp 24) .skip
  (.exit 2)))
  (.seq (.block 3 (.reg [⟨(some 27), .p .move, [.tmp 5], none⟩,
    ⟨(some 28), .p .move, [.tmp 4], none⟩,
    ⟨(some 29), .p .move, [.tmp 5], none⟩,
    ⟨(some 30), .p .lenSl, [.tmp 29], none⟩,
    ⟨(some 31), .h (.call 103), [.tmp 28, .tmp 30, .lit (.int .i64 1)], none⟩,
    ⟨(some 32), .h (.append 1 false), [.tmp 27, .tmp 31], none⟩,
    ⟨(some 5), .p .move, [.tmp 32], none⟩]))
  (.reg [⟨(some 25), .p .move, [.tmp 6], none⟩,
    ⟨(some 26), .p (.bin .add), [.tmp 25, .lit (.int .i64 1)], none⟩,
    ⟨(some 6), .p .move, [.tmp 26], none⟩]))))))
  (.reg [⟨(some 33), .p .move, [.tmp 3], none⟩,
    ⟨(some 34), .p .move, [.tmp 5], none⟩,
    ⟨(some 35), .p .move, [.tmp 4], none⟩,
    ⟨(some 36), .p .move, [.tmp 5], none⟩,
    ⟨(some 37), .p .lenSl, [.tmp 36], none⟩,
    ⟨(some 38), .h (.call 103), [.tmp 35, .tmp 37, .lit (.int .i64 60)], none⟩,
    ⟨(some 39), .h (.append 1 false), [.tmp 34, .tmp 38], none⟩,
    ⟨(some 40), .a (.buildSlice 1 1 [.nilslice] [0]), [.tmp 39], none⟩,
    ⟨(some 41), .h (.append 1 false), [.tmp 33, .tmp 40], none⟩,
    ⟨(some 3), .p .move, [.tmp 41], none⟩]))))
  (.reg [⟨(some 14), .p .move, [.tmp 4], none⟩,
    ⟨(some 15), .p (.bin .add), [.tmp 14, .lit (.int .i64 1)], none⟩,
    ⟨(some 4), .p .move, [.tmp 15], none⟩]))))))
  (.seq (.reg [⟨(some 42), .p .move, [.tmp 3], none⟩,
    ⟨(some 2), .p .move, [.tmp 42], none⟩])
  .ret)))), [.tmp 2]⟩
theorem c58 : cFunc Go.Proofs.Tryz.prog false 1 Go.Proofs.Tryz.f58 = some sf58 := by kernel_rfl

/-- (*rosary/rosarybook.Book).growInts -/
def sf59 : SFunc := ⟨1, 43, (.seq (.reg [⟨(some 2), .p .move, [.lit .nilslice], none⟩])
  (.seq (.reg [⟨(some 3), .p .move, [.lit .nilslice], none⟩])
  (.seq (.seq (.reg [⟨(some 4), .p .move, [.lit (.int .i64 0)], none⟩])
  (.block 0 (.loop [0, 3, 4] (.seq (.seq (.reg [⟨(some 7), .p .move, [.tmp 4], none⟩,
    ⟨(some 8), .p .move, [.tmp 0], none⟩,
    ⟨(some 9), .p .nilCheck, [.tmp 8], none⟩,
    ⟨(some 10), .p (.fieldAddr 2), [.tmp 9], none⟩,
    ⟨(some 11), .r (.load none), [.tmp 10], none⟩,
    ⟨(some 12), .p .lenSl, [.tmp 11], none⟩,
    ⟨(some 13), .p (.bin .lss), [.tmp 7, .tmp 12], none⟩])
  (.cond (.tmp 13) .skip
  (.exit 0)))
  (.seq (.block 1 (.seq (.reg [⟨(some 16), .p .move, [.tmp 0], none⟩,
    ⟨(some 17), .p .nilCheck, [.tmp 16], none⟩,
    ⟨(some 18), .p (.fieldAddr 2), [.tmp 17], none⟩,
    ⟨(some 19), .r (.load none), [.tmp 18], none⟩,
    ⟨(some 20), .p .move, [.tmp 4], none⟩,
    ⟨(some 21), .p (.indexAddr 1), [.tmp 19, .tmp 20], none⟩,
    ⟨(some 22), .r (.load none), [.tmp 21], none⟩,
    ⟨(some 5), .p .move, [.tmp 22], none⟩])
  (.seq (.seq (.reg [⟨(some 6), .p .move, [.lit (.int .i64 0)], none⟩])
  (.block 2 (.loop [0, 3, 4, 5, 6] (.seq (.seq (.reg [⟨(some 23), .p .move, [.tmp 6], none⟩,
    ⟨(some 24), .p (.bin .lss), [.tmp 23, .lit (.int .i64 12)], none⟩])
  (.cond (.tmp 24) .skip
  (.exit 2)))
  (.seq (.block 3 (.reg [⟨(some 27), .p .move, [.tmp 5], none⟩,
    ⟨(some 28), .p .move, [.tmp 4], none⟩,
    ⟨(some 29), .p .move, [.tmp 5], none⟩,
    ⟨(some 30), .p .lenSl, [.tmp 29], none⟩,
    ⟨(some 31), .h (.call 104), [.tmp 28, .tmp 30, .lit (.int .i64 1)], none⟩,
    ⟨(some 32), .h (.append 1 false), [.tmp 27, .tmp 31], none⟩,
    ⟨(some 5), .p .move, [.tmp 32], none⟩]))
  (.reg [⟨(some 25), .p .move, [.tmp 6], none⟩,
    ⟨(some 26), .p (.bin .add), [.tmp 25, .lit (.int .i64 1)], none⟩,
    ⟨(some 6), .p .move, [.tmp 26], none⟩]))))))
  (.reg [⟨(some 33), .p .move, [.tmp 3], none⟩,
    ⟨(some 34), .p .move, [.tmp 5], none⟩,
    ⟨(some 35), .p .move, [.tmp 4], none⟩,
    ⟨(some 36), .p .move, [.tmp 5], none⟩,
    ⟨(some 37), .p .lenSl, [.tmp 36], none⟩,
    ⟨(some 38), .h (.call 104), [.tmp 35, .tmp 37, .lit (.int .i64 60)], none⟩,
    ⟨(some 39), .h (.append 1 false), [.tmp 34, .tmp 38], none⟩,
    ⟨(some 40), .a (.buildSlice 1 1 [.nilslice] [0]), [.tmp 39], none⟩,
    ⟨(some 41), .h (.append 1 false), [.tmp 33, .tmp 40], none⟩,
    ⟨(some 3), .p .move, [.tmp 41], none⟩]))))
  (.reg [⟨(some 14), .p .move, [.tmp 4], none⟩,
    ⟨(some 15), .p (.bin .add), [.tmp 14, .lit (.int .i64 1)], none⟩,
    ⟨(some 4), .p .move, [.tmp 15], none⟩]))))))
  (.seq (.reg [⟨(some 42), .p .move, [.tmp 3], none⟩,
    ⟨(some 2), .p .move, [.tmp 42], none⟩])
  .ret)))), [.tmp 2]⟩
theorem c59 : cFunc Go.Proofs.Tryz.prog false 1 Go.Proofs.Tryz.f59 = some sf59 := by kernel_rfl

/-- (*rosary/rosarybook.Book).growPoints -/
def sf60 : SFunc := ⟨1, 43, (.seq (.reg [⟨(some 2), .p .move, [.lit .nilslice], none⟩])
  (.seq (.reg [⟨(some 3), .p .move, [.lit .nilslice], none⟩])
  (.seq (.seq (.reg [⟨(some 4), .p .move, [.lit (.int .i64 0)], none⟩])
  (.block 0 (.loop [0, 3, 4] (.seq (.seq (.reg [⟨(some 7), .p .move, [.tmp 4], none⟩,
    ⟨(some 8), .p .move, [.tmp 0], none⟩,
    ⟨(some 9), .p .nilCheck, [.tmp 8], none⟩,
    ⟨(some 10), .p (.fieldAddr 4), [.tmp 9], none⟩,
    ⟨(some 11), .r (.load none), [.tmp 10], none⟩,
    ⟨(some 12), .p .lenSl, [.tmp 11], none⟩,
    ⟨(some 13), .p (.bin .lss), [.tmp 7, .tmp 12], none⟩])
  (.cond (.tmp 13) .skip
  (.exit 0)))
  (.seq (.block 1 (.seq (.reg [⟨(some 16), .p .move, [.tmp 0], none⟩,
    ⟨(some 17), .p .nilCheck, [.tmp 16], none⟩,
    ⟨(some 18), .p (.fieldAddr 4), [.tmp 17], none⟩,
    ⟨(some 19), .r (.load none), [.tmp 18], none⟩,
    ⟨(some 20), .p .move, [.tmp 4], none⟩,
    ⟨(some 21), .p (.indexAddr 1), [.tmp 19, .tmp 20], none⟩,
    ⟨(some 22), .r (.load none), [.tmp 21], none⟩,
    ⟨(some 5), .p .move, [.tmp 22], none⟩])
  (.seq (.seq (.reg [⟨(some 6), .p .move, [.lit (.int .i64 0)], none⟩])
  (.block 2 (.loop [0, 3, 4, 5, 6] (.seq (.seq (.reg [⟨(some 23), .p .move, [.tmp 6], none⟩,
    ⟨(some 24), .p (.bin .lss), [.tmp 23, .lit (.int .i64 12)], none⟩])
  (.cond (.tmp 24) .skip
  (.exit 2)))
  (.seq (.block 3 (.reg [⟨(some 27), .p .move, [.tmp 5], none⟩,
    ⟨(some 28), .p .move, [.tmp 4], none⟩,
    ⟨(some 29), .p .move, [.tmp 5], none⟩,
    ⟨(some 30), .p .lenSl, [.tmp 29], none⟩,
    ⟨(some 31), .h (.call 105), [.tmp 28, .tmp 30, .lit (.int .i64 1)], none⟩,
    ⟨(some 32), .h (.append 1 false), [.tmp 27, .tmp 31], none⟩,
    ⟨(some 5), .p .move, [.tmp 32], none⟩]))
  (.reg [⟨(some 25), .p .move, [.tmp 6], none⟩,
    ⟨(some 26), .p (.bin .add), [.tmp 25, .lit (.int .i64 1)], none⟩,
    ⟨(some 6), .p .move, [.tmp 26], none⟩]))))))
  (.reg [⟨(some 33), .p .move, [.tmp 3], none⟩,
    ⟨(some 34), .p .move, [.tmp 5], none⟩,
    ⟨(some 35), .p .move, [.tmp 4], none⟩,
    ⟨(some 36), .p .move, [.tmp 5], none⟩,
    ⟨(some 37), .p .lenSl, [.tmp 36], none⟩,
    ⟨(some 38), .h (.call 105), [.tmp 35, .tmp 37, .lit (.int .i64 60)], none⟩,
    ⟨(some 39), .h (.append 1 false), [.tmp 34, .tmp 38], none⟩,
    ⟨(some 40), .a (.buildSlice 1 1 [.nilslice] [0]), [.tmp 39], none⟩,
    ⟨(some 41), .h (.append 1 false), [.tmp 33, .tmp 40], none⟩,
    ⟨(some 3), .p .move, [.tmp 41], none⟩]))))
  (.reg [⟨(some 14), .p .move, [.tmp 4], none⟩,
    ⟨(some 15), .p (.bin .add), [.tmp 14, .lit (.int .i64 1)], none⟩,
    ⟨(some 4), .p .move, [.tmp 15], none⟩]))))))
  (.seq (.reg [⟨(some 42), .p .move, [.tmp 3], none⟩,
    ⟨(some 2), .p .move, [.tmp 42], none⟩])
  .ret)))), [.tmp 2]⟩
theorem c60 : cFunc Go.Proofs.Tryz.prog false 1 Go.Proofs.Tryz.f60 = some sf60 := by kernel_rfl

/-- (*rosary/rosarybook.Book).growItems -/
def sf61 : SFunc := ⟨1, 43, (.seq (.reg [⟨(some 2), .p .move, [.lit .nilslice], none⟩])
  (.seq (.reg [⟨(some 3), .p .move, [.lit .nilslice], none⟩])
  (.seq (.seq (.reg [⟨(some 4), .p .move, [.lit (.int .i64 0)], none⟩])
  (.block 0 (.loop [0, 3, 4] (.seq (.seq (.reg [⟨(some 7), .p .move, [.tmp 4], none⟩,
    ⟨(some 8), .p .move, [.tmp 0], none⟩,
    ⟨(some 9), .p .nilCheck, [.tmp 8], none⟩,
    ⟨(some 10), .p (.fieldAddr 6), [.tmp 9], none⟩,
    ⟨(some 11), .r (.load none), [.tmp 10], none⟩,
    ⟨(some 12), .p .lenSl, [.tmp 11], none⟩,
    ⟨(some 13), .p (.bin .lss), [.tmp 7, .tmp 12], none⟩])
  (.cond (.tmp 13) .skip
  (.exit 0)))
  (.seq (.block 1 (.seq (.reg [⟨(some 16), .p .move, [.tmp 0], none⟩,
    ⟨(some 17), .p .nilCheck, [.tmp 16], none⟩,
    ⟨(some 18), .p (.fieldAddr 6), [.tmp 17], none⟩,
    ⟨(some 19), .r (.load none), [.tmp 18], none⟩,
    ⟨(some 20), .p .move, [.tmp 4], none⟩,
    ⟨(some 21), .p (.indexAddr 1), [.tmp 19, .tmp 20], none⟩,
    ⟨(some 22), .r (.load none), [.tmp 21], none⟩,
    ⟨(some 5), .p .move, [.tmp 22], none⟩])
  (.seq (.seq (.reg [⟨(some 6), .p .move, [.lit (.int .i64 0)], none⟩])
  (.block 2 (.loop [0, 3, 4, 5, 6] (.seq (.seq (.reg [⟨(some 23), .p .move, [.tmp 6], none⟩,
    ⟨(some 24), .p (.bin .lss), [.tmp 23, .lit (.int .i64 12)], none⟩])
  (.cond (.tmp 24) .skip
  (.exit 2)))
  (.seq (.block 3 (.reg [⟨(some 27), .p .move, [.tmp 5], none⟩,
    ⟨(some 28), .p .move, [.tmp 4], none⟩,
    ⟨(some 29), .p .move, [.tmp 5], none⟩,
    ⟨(some 30), .p .lenSl, [.tmp 29], none⟩,
    ⟨(some 31), .h (.call 106), [.tmp 28, .tmp 30, .lit (.int .i64 1)], none⟩,
    ⟨(some 32), .h (.append 2 true), [.tmp 27, .tmp 31], none⟩,
    ⟨(some 5), .p .move, [.tmp 32], none⟩]))
  (.reg [⟨(some 25), .p .move, [.tmp 6], none⟩,
    ⟨(some 26), .p (.bin .add), [.tmp 25, .lit (.int .i64 1)], none⟩,
    ⟨(some 6), .p .move, [.tmp 26], none⟩]))))))
  (.reg [⟨(some 33), .p .move, [.tmp 3], none⟩,
    ⟨(some 34), .p .move, [.tmp 5], none⟩,
    ⟨(some 35), .p .move, [.tmp 4], none⟩,
    ⟨(some 36), .p .move, [.tmp 5], none⟩,
    ⟨(some 37), .p .lenSl, [.tmp 36], none⟩,
    ⟨(some 38), .h (.call 106), [.tmp 35, .tmp 37, .lit (.int .i64 60)], none⟩,
    ⟨(some 39), .h (.append 2 true), [.tmp 34, .tmp 38], none⟩,
    ⟨(some 40), .a (.buildSlice 1 1 [.nilslice] [0]), [.tmp 39], none⟩,
    ⟨(some 41), .h (.append 1 true), [.tmp 33, .tmp 40], none⟩,
    ⟨(some 3), .p .move, [.tmp 41], none⟩]))))
  (.reg [⟨(some 14), .p .move, [.tmp 4], none⟩,
    ⟨(some 15), .p (.bin .add), [.tmp 14, .lit (.int .i64 1)], none⟩,
    ⟨(some 4), .p .move, [.tmp 15], none⟩]))))))
  (.seq (.reg [⟨(some 42), .p .move, [.tmp 3], none⟩,
    ⟨(some 2), .p .move, [.tmp 42], none⟩])
  .ret)))), [.tmp 2]⟩
theorem c61 : cFunc Go.Proofs.Tryz.prog true 1 Go.Proofs.Tryz.f61 = some sf61 := by kernel_rfl

/-- (*rosary/rosarybook.Book).growOwneds -/
def sf62 : SFunc := ⟨1, 43, (.seq (.reg [⟨(some 2), .p .move, [.lit .nilslice], none⟩])
  (.seq (.reg [⟨(some 3), .p .move, [.lit .nilslice], none⟩])
  (.seq (.seq (.reg [⟨(some 4), .p .move, [.lit (.int .i64 0)], none⟩])
  (.block 0 (.loop [0, 3, 4] (.seq (.seq (.reg [⟨(some 7), .p .move, [.tmp 4], none⟩,
    ⟨(some 8), .p .move, [.tmp 0], none⟩,
    ⟨(some 9), .p .nilCheck, [.tmp 8], none⟩,
    ⟨(some 10), .p (.fieldAddr 8), [.tmp 9], none⟩,
    ⟨(some 11), .r (.load none), [.tmp 10], none⟩,
    ⟨(some 12), .p .lenSl, [.tmp 11], none⟩,
    ⟨(some 13), .p (.bin .lss), [.tmp 7, .tmp 12], none⟩])
  (.cond (.tmp 13) .skip
  (.exit 0)))
  (.seq (.block 1 (.seq (.reg [⟨(some 16), .p .move, [.tmp 0], none⟩,
    ⟨(some 17), .p .nilCheck, [.tmp 16], none⟩,
    ⟨(some 18), .p (.fieldAddr 8), [.tmp 17], none⟩,
    ⟨(some 19), .r (.load none), [.tmp 18], none⟩,
    ⟨(some 20), .p .move, [.tmp 4], none⟩,
    ⟨(some 21), .p (.indexAddr 1), [.tmp 19, .tmp 20], none⟩,
    ⟨(some 22), .r (.load none), [.tmp 21], none⟩,
    ⟨(some 5), .p .move, [.tmp 22], none⟩])
  (.seq (.seq (.reg [⟨(some 6), .p .move, [.lit (.int .i64 0)], none⟩])
  (.block 2 (.loop [0, 3, 4, 5, 6] (.seq (.seq (.reg [⟨(some 23), .p .move, [.tmp 6], none⟩,
    ⟨(some 24), .p (.bin .lss), [.tmp 23, .lit (.int .i64 12)], none⟩])
  (.cond (.tmp 24) .skip
  (.exit 2)))
  (.seq (.block 3 (.reg [⟨(some 27), .p .move, [.tmp 5], none⟩,
    ⟨(some 28), .p .move, [.tmp 4], none⟩,
    ⟨(some 29), .p .move, [.tmp 5], none⟩,
    ⟨(some 30), .p .lenSl, [.tmp 29], none⟩,
    ⟨(some 31), .h (.call 107), [.tmp 28, .tmp 30, .lit (.int .i64 1)], none⟩,
    ⟨(some 32), .h (.append 4 false), [.tmp 27, .tmp 31], none⟩,
    ⟨(some 5), .p .move, [.tmp 32], none⟩]))
  (.reg [⟨(some 25), .p .move, [.tmp 6], none⟩,
    ⟨(some 26), .p (.bin .add), [.tmp 25, .lit (.int .i64 1)], none⟩,
    ⟨(some 6), .p .move, [.tmp 26], none⟩]))))))
  (.reg [⟨(some 33), .p .move, [.tmp 3], none⟩,
    ⟨(some 34), .p .move, [.tmp 5], none⟩,
    ⟨(some 35), .p .move, [.tmp 4], none⟩,
    ⟨(some 36), .p .move, [.tmp 5], none⟩,
    ⟨(some 37), .p .lenSl, [.tmp 36], none⟩,
    ⟨(some 38), .h (.call 107), [.tmp 35, .tmp 37, .lit (.int .i64 60)], none⟩,
    ⟨(some 39), .h (.append 4 false), [.tmp 34, .tmp 38], none⟩,
    ⟨(some 40), .a (.buildSlice 1 1 [.nilslice] [0]), [.tmp 39], none⟩,
    ⟨(some 41), .h (.append 1 false), [.tmp 33, .tmp 40], none⟩,
    ⟨(some 3), .p .move, [.tmp 41], none⟩]))))
  (.reg [⟨(some 14), .p .move, [.tmp 4], none⟩,
    ⟨(some 15), .p (.bin .add), [.tmp 14, .lit (.int .i64 1)], none⟩,
    ⟨(some 4), .p .move, [.tmp 15], none⟩]))))))
  (.seq (.reg [⟨(some 42), .p .move, [.tmp 3], none⟩,
    ⟨(some 2), .p .move, [.tmp 42], none⟩])
  .ret)))), [.tmp 2]⟩
theorem c62 : cFunc Go.Proofs.Tryz.prog false 1 Go.Proofs.Tryz.f62 = some sf62 := by kernel_rfl

/-- (*rosary/rosarybook.Book).growEvents -/
def sf63 : SFunc := ⟨1, 43, (.seq (.reg [⟨(some 2), .p .move, [.lit .nilslice], none⟩])
  (.seq (.reg [⟨(some 3), .p .move, [.lit .nilslice], none⟩])
  (.seq (.seq (.reg [⟨(some 4), .p .move, [.lit (.int .i64 0)], none⟩])
  (.block 0 (.loop [0, 3, 4] (.seq (.seq (.reg [⟨(some 7), .p .move, [.tmp 4], none⟩,
    ⟨(some 8), .p .move, [.tmp 0], none⟩,
    ⟨(some 9), .p .nilCheck, [.tmp 8], none⟩,
    ⟨(some 10), .p (.fieldAddr 10), [.tmp 9], none⟩,
    ⟨(some 11), .r (.load none), [.tmp 10], none⟩,
    ⟨(some 12), .p .lenSl, [.tmp 11], none⟩,
    ⟨(some 13), .p (.bin .lss), [.tmp 7, .tmp 12], none⟩])
  (.cond (.tmp 13) .skip
  (.exit 0)))
  (.seq (.block 1 (.seq (.reg [⟨(some 16), .p .move, [.tmp 0], none⟩,
    ⟨(some 17), .p .nilCheck, [.tmp 16], none⟩,
    ⟨(some 18), .p (.fieldAddr 10), [.tmp 17], none⟩,
    ⟨(some 19), .r (.load none), [.tmp 18], none⟩,
    ⟨(some 20), .p .move, [.tmp 4], none⟩,
    ⟨(some 21), .p (.indexAddr 1), [.tmp 19, .tmp 20], none⟩,
    ⟨(some 22), .r (.load none), [.tmp 21], none⟩,
    ⟨(some 5), .p .move, [.tmp 22], none⟩])
  (.seq (.seq (.reg [⟨(some 6), .p .move, [.lit (.int .i64 0)], none⟩])
  (.block 2 (.loop [0, 3, 4, 5, 6] (.seq (.seq (.reg [⟨(some 23), .p .move, [.tmp 6], none⟩,
    ⟨(some 24), .p (.bin .lss), [.tmp 23, .lit (.int .i64 12)], none⟩])
  (.cond (.tmp 24) .skip
  (.exit 2)))
  (.seq (.block 3 (.reg [⟨(some 27), .p .move, [.tmp 5], none⟩,
    ⟨(some 28), .p .move, [.tmp 4], none⟩,
    ⟨(some 29), .p .move, [.tmp 5], none⟩,
    ⟨(some 30), .p .lenSl, [.tmp 29], none⟩,
    ⟨(some 31), .h (.call 101), [.tmp 28, .tmp 30, .lit (.int .i64 1)], none⟩,
    ⟨(some 32), .h (.append 15 false), [.tmp 27, .tmp 31], none⟩,
    ⟨(some 5), .p .move, [.tmp 32], none⟩]))
  (.reg [⟨(some 25), .p .move, [.tmp 6], none⟩,
    ⟨(some 26), .p (.bin .add), [.tmp 25, .lit (.int .i64 1)], none⟩,
    ⟨(some 6), .p .move, [.tmp 26], none⟩]))))))
  (.reg [⟨(some 33), .p .move, [.tmp 3], none⟩,
    ⟨(some 34), .p .move, [.tmp 5], none⟩,
    ⟨(some 35), .p .move, [.tmp 4], none⟩,
    ⟨(some 36), .p .move, [.tmp 5], none⟩,
    ⟨(some 37), .p .lenSl, [.tmp 36], none⟩,
    ⟨(some 38), .h (.call 101), [.tmp 35, .tmp 37, .lit (.int .i64 60)], none⟩,
    ⟨(some 39), .h (.append 15 false), [.tmp 34, .tmp 38], none⟩,
    ⟨(some 40), .a (.buildSlice 1 1 [.nilslice] [0]), [.tmp 39], none⟩,
    ⟨(some 41), .h (.append 1 false), [.tmp 33, .tmp 40], none⟩,
    ⟨(some 3), .p .move, [.tmp 41], none⟩]))))
  (.reg [⟨(some 14), .p .move, [.tmp 4], none⟩,
    ⟨(some 15), .p (.bin .add), [.tmp 14, .lit (.int .i64 1)], none⟩,
    ⟨(some 4), .p .move, [.tmp 15], none⟩]))))))
  (.seq (.reg [⟨(some 42), .p .move, [.tmp 3], none⟩,
    ⟨(some 2), .p .move, [.tmp 42], none⟩])
  .ret)))), [.tmp 2]⟩
theorem c63 : cFunc Go.Proofs.Tryz.prog false 1 Go.Proofs.Tryz.f63 = some sf63 := by kernel_rfl

/-- (*rosary/rosarybook.Book).growLetters -/
def sf64 : SFunc := ⟨1, 43, (.seq (.reg [⟨(some 2), .p .move, [.lit .nilslice], none⟩])
  (.seq (.reg [⟨(some 3), .p .move, [.lit .nilslice], none⟩])
  (.seq (.seq (.reg [⟨(some 4), .p .move, [.lit (.int .i64 0)], none⟩])
  (.block 0 (.loop [0, 3, 4] (.seq (.seq (.reg [⟨(some 7), .p .move, [.tmp 4], none⟩,
    ⟨(some 8), .p .move, [.tmp 0], none⟩,
    ⟨(some 9), .p .nilCheck, [.tmp 8], none⟩,
    ⟨(some 10), .p (.fieldAddr 12), [.tmp 9], none⟩,
    ⟨(some 11), .r (.load none), [.tmp 10], none⟩,
    ⟨(some 12), .p .lenSl, [.tmp 11], none⟩,
    ⟨(some 13), .p (.bin .lss), [.tmp 7, .tmp 12], none⟩])
  (.cond (.tmp 13) .skip
  (.exit 0)))
  (.seq (.block 1 (.seq (.reg [⟨(some 16), .p .move, [.tmp 0], none⟩,
    ⟨(some 17), .p .nilCheck, [.tmp 16], none⟩,
    ⟨(some 18), .p (.fieldAddr 12), [.tmp 17], none⟩,
    ⟨(some 19), .r (.load none), [.tmp 18], none⟩,
    ⟨(some 20), .p .move, [.tmp 4], none⟩,
    ⟨(some 21), .p (.indexAddr 1), [.tmp 19, .tmp 20], none⟩,
    ⟨(some 22), .r (.load none), [.tmp 21], none⟩,
    ⟨(some 5), .p .move, [.tmp 22], none⟩])
  (.seq (.seq (.reg [⟨(some 6), .p .move, [.lit (.int .i64 0)], none⟩])
  (.block 2 (.loop [0, 3, 4, 5, 6] (.seq (.seq (.reg [⟨(some 23), .p .move, [.tmp 6], none⟩,
    ⟨(some 24), .p (.bin .lss), [.tmp 23, .lit (.int .i64 12)], none⟩])
  (.cond (.tmp 24) .skip
  (.exit 2)))
  (.seq (.block 3 (.reg [⟨(some 27), .p .move, [.tmp 5], none⟩,
    ⟨(some 28), .p .move, [.tmp 4], none⟩,
    ⟨(some 29), .p .move, [.tmp 5], none⟩,
    ⟨(some 30), .p .lenSl, [.tmp 29], none⟩,
    ⟨(some 31), .h (.call 102), [.tmp 28, .tmp 30, .lit (.int .i64 1)], none⟩,
    ⟨(some 32), .h (.append 21 false), [.tmp 27, .tmp 31], none⟩,
    ⟨(some 5), .p .move, [.tmp 32], none⟩]))
  (.reg [⟨(some 25), .p .move, [.tmp 6], none⟩,
    ⟨(some 26), .p (.bin .add), [.tmp 25, .lit (.int .i64 1)], none⟩,
    ⟨(some 6), .p .move, [.tmp 26], none⟩]))))))
  (.reg [⟨(some 33), .p .move, [.tmp 3], none⟩,
    ⟨(some 34), .p .move, [.tmp 5], none⟩,
    ⟨(some 35), .p .move, [.tmp 4], none⟩,
    ⟨(some 36), .p .move, [.tmp 5], none⟩,
    ⟨(some 37), .p .lenSl, [.tmp 36], none⟩,
    ⟨(some 38), .h (.call 102), [.tmp 35, .tmp 37, .lit (.int .i64 60)], none⟩,
    ⟨(some 39), .h (.append 21 false), [.tmp 34, .tmp 38], none⟩,
    ⟨(some 40), .a (.buildSlice 1 1 [.nilslice] [0]), [.tmp 39], none⟩,
    ⟨(some 41), .h (.append 1 false), [.tmp 33, .tmp 40], none⟩,
    ⟨(some 3), .p .move, [.tmp 41], none⟩]))))
  (.reg [⟨(some 14), .p .move, [.tmp 4], none⟩,
    ⟨(some 15), .p (.bin .add), [.tmp 14, .lit (.int .i64 1)], none⟩,
    ⟨(some 4), .p .move, [.tmp 15], none⟩]))))))
  (.seq (.reg [⟨(some 42), .p .move, [.tmp 3], none⟩,
    ⟨(some 2), .p .move, [.tmp 42], none⟩])
  .ret)))), [.tmp 2]⟩
theorem c64 : cFunc Go.Proofs.Tryz.prog false 1 Go.Proofs.Tryz.f64 = some sf64 := by kernel_rfl

/-- rosary/rosarybook.markedTexts -/
def sf65 : SFunc := ⟨1, 23, (.seq (.reg [⟨(some 2), .p .move, [.lit (.bool false)], none⟩])
  (.seq (.seq (.reg [⟨(some 3), .p .move, [.lit (.int .i64 0)], none⟩])
  (.block 0 (.loop [0, 3] (.seq (.seq (.reg [⟨(some 4), .p .move, [.tmp 3], none⟩,
    ⟨(some 5), .p .move, [.tmp 0], none⟩,
    ⟨(some 6), .p .lenSl, [.tmp 5], none⟩,
    ⟨(some 7), .p (.bin .lss), [.tmp 4, .tmp 6], none⟩])
  (.cond (.tmp 7) .skip
  (.exit 0)))
  (.seq (.block 1 (.seq (.dreg [⟨[⟨(some 10), .p .move, [.tmp 0], none⟩,
    ⟨(some 11), .p .move, [.tmp 3], none⟩,
    ⟨(some 12), .p (.indexAddr 1), [.tmp 10, .tmp 11], none⟩,
    ⟨(some 13), .r (.load none), [.tmp 12], none⟩,
    ⟨(some 14), .p .move, [.tmp 3], none⟩,
    ⟨(some 15), .p .move, [.tmp 0], none⟩,
    ⟨(some 16), .p .move, [.tmp 3], none⟩,
    ⟨(some 17), .p (.indexAddr 1), [.tmp 15, .tmp 16], none⟩,
    ⟨(some 18), .r (.load none), [.tmp 17], none⟩,
    ⟨(some 19), .p .lenSl, [.tmp 18], none⟩], [], some ⟨(some 20), .h (.call 103), [.tmp 14, .lit (.int .i64 0), .tmp 19], none⟩⟩,
   ⟨[], [⟨(some 13), .r (.load none), [.tmp 12], none⟩], some ⟨(some 21), .h (.call 95), [.tmp 13, .tmp 20], none⟩⟩,
   ⟨[⟨(some 22), .p .not, [.tmp 21], none⟩], [], none⟩])
  (.cond (.tmp 22) (.seq (.reg [⟨(some 2), .p .move, [.lit (.bool false)], none⟩])
  .ret)
  .skip)))
  (.reg [⟨(some 8), .p .move, [.tmp 3], none⟩,
    ⟨(some 9), .p (.bin .add), [.tmp 8, .lit (.int .i64 1)], none⟩,
    ⟨(some 3), .p .move, [.tmp 9], none⟩]))))))
  (.seq (.reg [⟨(some 2), .p .move, [.lit (.bool true)], none⟩])
  .ret))), [.tmp 2]⟩
theorem c65 : cFunc Go.Proofs.Tryz.prog false 1 Go.Proofs.Tryz.f65 = some sf65 := by kernel_rfl

/-- rosary/rosarybook.markedInts -/
def sf66 : SFunc := ⟨1, 23, (.seq (.reg [⟨(some 2), .p .move, [.lit (.bool false)], none⟩])
  (.seq (.seq (.reg [⟨(some 3), .p .move, [.lit (.int .i64 0)], none⟩])
  (.block 0 (.loop [0, 3] (.seq (.seq (.reg [⟨(some 4), .p .move, [.tmp 3], none⟩,
    ⟨(some 5), .p .move, [.tmp 0], none⟩,
    ⟨(some 6), .p .lenSl, [.tmp 5], none⟩,
    ⟨(some 7), .p (.bin .lss), [.tmp 4, .tmp 6], none⟩])
  (.cond (.tmp 7) .skip
  (.exit 0)))
  (.seq (.block 1 (.seq (.dreg [⟨[⟨(some 10), .p .move, [.tmp 0], none⟩,
    ⟨(some 11), .p .move, [.tmp 3], none⟩,
    ⟨(some 12), .p (.indexAddr 1), [.tmp 10, .tmp 11], none⟩,
    ⟨(some 13), .r (.load none), [.tmp 12], none⟩,
    ⟨(some 14), .p .move, [.tmp 3], none⟩,
    ⟨(some 15), .p .move, [.tmp 0], none⟩,
    ⟨(some 16), .p .move, [.tmp 3], none⟩,
    ⟨(some 17), .p (.indexAddr 1), [.tmp 15, .tmp 16], none⟩,
    ⟨(some 18), .r (.load none), [.tmp 17], none⟩,
    ⟨(some 19), .p .lenSl, [.tmp 18], none⟩], [], some ⟨(some 20), .h (.call 104), [.tmp 14, .lit (.int .i64 0), .tmp 19], none⟩⟩,
   ⟨[], [⟨(some 13), .r (.load none), [.tmp 12], none⟩], some ⟨(some 21), .h (.call 96), [.tmp 13, .tmp 20], none⟩⟩,
   ⟨[⟨(some 22), .p .not, [.tmp 21], none⟩], [], none⟩])
  (.cond (.tmp 22) (.seq (.reg [⟨(some 2), .p .move, [.lit (.bool false)], none⟩])
  .ret)
  .skip)))
  (.reg [⟨(some 8), .p .move, [.tmp 3], none⟩,
    ⟨(some 9), .p (.bin .add), [.tmp 8, .lit (.int .i64 1)], none⟩,
    ⟨(some 3), .p .move, [.tmp 9], none⟩]))))))
  (.seq (.reg [⟨(some 2), .p .move, [.lit (.bool true)], none⟩])
  .ret))), [.tmp 2]⟩
theorem c66 : cFunc Go.Proofs.Tryz.prog false 1 Go.Proofs.Tryz.f66 = some sf66 := by kernel_rfl

/-- rosary/rosarybook.markedPoints -/
def sf67 : SFunc := ⟨1, 23, (.seq (.reg [⟨(some 2), .p .move, [.lit (.bool false)], none⟩])
  (.seq (.seq (.reg [⟨(some 3), .p .move, [.lit (.int .i64 0)], none⟩])
  (.block 0 (.loop [0, 3] (.seq (.seq (.reg [⟨(some 4), .p .move, [.tmp 3], none⟩,
    ⟨(some 5), .p .move, [.tmp 0], none⟩,
    ⟨(some 6), .p .lenSl, [.tmp 5], none⟩,
    ⟨(some 7), .p (.bin .lss), [.tmp 4, .tmp 6], none⟩])
  (.cond (.tmp 7) .skip
  (.exit 0)))
  (.seq (.block 1 (.seq (.dreg [⟨[⟨(some 10), .p .move, [.tmp 0], none⟩,
    ⟨(some 11), .p .move, [.tmp 3], none⟩,
    ⟨(some 12), .p (.indexAddr 1), [.tmp 10, .tmp 11], none⟩,
    ⟨(some 13), .r (.load none), [.tmp 12], none⟩,
    ⟨(some 14), .p .move, [.tmp 3], none⟩,
    ⟨(some 15), .p .move, [.tmp 0], none⟩,
    ⟨(some 16), .p .move, [.tmp 3], none⟩,
    ⟨(some 17), .p (.indexAddr 1), [.tmp 15, .tmp 16], none⟩,
    ⟨(some 18), .r (.load none), [.tmp 17], none⟩,
    ⟨(some 19), .p .lenSl, [.tmp 18], none⟩], [], some ⟨(some 20), .h (.call 105), [.tmp 14, .lit (.int .i64 0), .tmp 19], none⟩⟩,
   ⟨[], [⟨(some 13), .r (.load none), [.tmp 12], none⟩], some ⟨(some 21), .h (.call 97), [.tmp 13, .tmp 20], none⟩⟩,
   ⟨[⟨(some 22), .p .not, [.tmp 21], none⟩], [], none⟩])
  (.cond (.tmp 22) (.seq (.reg [⟨(some 2), .p .move, [.lit (.bool false)], none⟩])
  .ret)
  .skip)))
  (.reg [⟨(some 8), .p .move, [.tmp 3], none⟩,
    ⟨(some 9), .p (.bin .add), [.tmp 8, .lit (.int .i64 1)], none⟩,
    ⟨(some 3), .p .move, [.tmp 9], none⟩]))))))
  (.seq (.reg [⟨(some 2), .p .move, [.lit (.bool true)], none⟩])
  .ret))), [.tmp 2]⟩
theorem c67 : cFunc Go.Proofs.Tryz.prog false 1 Go.Proofs.Tryz.f67 = some sf67 := by kernel_rfl

/-- rosary/rosarybook.markedItems -/
def sf68 : SFunc := ⟨1, 23, (.seq (.reg [⟨(some 2), .p .move, [.lit (.bool false)], none⟩])
  (.seq (.seq (.reg [⟨(some 3), .p .move, [.lit (.int .i64 0)], none⟩])
  (.block 0 (.loop [0, 3] (.seq (.seq (.reg [⟨(some 4), .p .move, [.tmp 3], none⟩,
    ⟨(some 5), .p .move, [.tmp 0], none⟩,
    ⟨(some 6), .p .lenSl, [.tmp 5], none⟩,
    ⟨(some 7), .p (.bin .lss), [.tmp 4, .tmp 6], none⟩])
  (.cond (.tmp 7) .skip
  (.exit 0)))
  (.seq (.block 1 (.seq (.dreg [⟨[⟨(some 10), .p .move, [.tmp 0], none⟩,
    ⟨(some 11), .p .move, [.tmp 3], none⟩,
    ⟨(some 12), .p (.indexAddr 1), [.tmp 10, .tmp 11], none⟩,
    ⟨(some 13), .r (.load none), [.tmp 12], none⟩,
    ⟨(some 14), .p .move, [.tmp 3], none⟩,
    ⟨(some 15), .p .move, [.tmp 0], none⟩,
    ⟨(some 16), .p .move, [.tmp 3], none⟩,
    ⟨(some 17), .p (.indexAddr 1), [.tmp 15, .tmp 16], none⟩,
    ⟨(some 18), .r (.load none), [.tmp 17], none⟩,
    ⟨(some 19), .p .lenSl, [.tmp 18], none⟩], [], some ⟨(some 20), .h (.call 106), [.tmp 14, .lit (.int .i64 0), .tmp 19], none⟩⟩,
   ⟨[], [⟨(some 13), .r (.load none), [.tmp 12], none⟩], some ⟨(some 21), .h (.call 37), [.tmp 13, .tmp 20], none⟩⟩,
   ⟨[⟨(some 22), .p .not, [.tmp 21], none⟩], [], none⟩])
  (.cond (.tmp 22) (.seq (.reg [⟨(some 2), .p .move, [.lit (.bool false)], none⟩])
  .ret)
  .skip)))
  (.reg [⟨(some 8), .p .move, [.tmp 3], none⟩,
    ⟨(some 9), .p (.bin .add), [.tmp 8, .lit (.int .i64 1)], none⟩,
    ⟨(some 3), .p .move, [.tmp 9], none⟩]))))))
  (.seq (.reg [⟨(some 2), .p .move, [.lit (.bool true)], none⟩])
  .ret))), [.tmp 2]⟩
theorem c68 : cFunc Go.Proofs.Tryz.prog false 1 Go.Proofs.Tryz.f68 = some sf68 := by kernel_rfl

/-- rosary/rosarybook.markedOwneds -/
def sf69 : SFunc := ⟨1, 23, (.seq (.reg [⟨(some 2), .p .move, [.lit (.bool false)], none⟩])
  (.seq (.seq (.reg [⟨(some 3), .p .move, [.lit (.int .i64 0)], none⟩])
  (.block 0 (.loop [0, 3] (.seq (.seq (.reg [⟨(some 4), .p .move, [.tmp 3], none⟩,
    ⟨(some 5), .p .move, [.tmp 0], none⟩,
    ⟨(some 6), .p .lenSl, [.tmp 5], none⟩,
    ⟨(some 7), .p (.bin .lss), [.tmp 4, .tmp 6], none⟩])
  (.cond (.tmp 7) .skip
  (.exit 0)))
  (.seq (.block 1 (.seq (.dreg [⟨[⟨(some 10), .p .move, [.tmp 0], none⟩,
    ⟨(some 11), .p .move, [.tmp 3], none⟩,
    ⟨(some 12), .p (.indexAddr 1), [.tmp 10, .tmp 11], none⟩,
    ⟨(some 13), .r (.load none), [.tmp 12], none⟩,
    ⟨(some 14), .p .move, [.tmp 3], none⟩,
    ⟨(some 15), .p .move, [.tmp 0], none⟩,
    ⟨(some 16), .p .move, [.tmp 3], none⟩,
    ⟨(some 17), .p (.indexAddr 1), [.tmp 15, .tmp 16], none⟩,
    ⟨(some 18), .r (.load none), [.tmp 17], none⟩,
    ⟨(some 19), .p .lenSl, [.tmp 18], none⟩], [], some ⟨(some 20), .h (.call 107), [.tmp 14, .lit (.int .i64 0), .tmp 19], none⟩⟩,
   ⟨[], [⟨(some 13), .r (.load none), [.tmp 12], none⟩], some ⟨(some 21), .h (.call 98), [.tmp 13, .tmp 20], none⟩⟩,
   ⟨[⟨(some 22), .p .not, [.tmp 21], none⟩], [], none⟩])
  (.cond (.tmp 22) (.seq (.reg [⟨(some 2), .p .move, [.lit (.bool false)], none⟩])
  .ret)
  .skip)))
  (.reg [⟨(some 8), .p .move, [.tmp 3], none⟩,
    ⟨(some 9), .p (.bin .add), [.tmp 8, .lit (.int .i64 1)], none⟩,
    ⟨(some 3), .p .move, [.tmp 9], none⟩]))))))
  (.seq (.reg [⟨(some 2), .p .move, [.lit (.bool true)], none⟩])
  .ret))), [.tmp 2]⟩
theorem c69 : cFunc Go.Proofs.Tryz.prog false 1 Go.Proofs.Tryz.f69 = some sf69 := by kernel_rfl

/-- rosary/rosarybook.markedEvents -/
def sf70 : SFunc := ⟨1, 23, (.seq (.reg [⟨(some 2), .p .move, [.lit (.bool false)], none⟩])
  (.seq (.seq (.reg [⟨(some 3), .p .move, [.lit (.int .i64 0)], none⟩])
  (.block 0 (.loop [0, 3] (.seq (.seq (.reg [⟨(some 4), .p .move, [.tmp 3], none⟩,
    ⟨(some 5), .p .move, [.tmp 0], none⟩,
    ⟨(some 6), .p .lenSl, [.tmp 5], none⟩,
    ⟨(some 7), .p (.bin .lss), [.tmp 4, .tmp 6], none⟩])
  (.cond (.tmp 7) .skip
  (.exit 0)))
  (.seq (.block 1 (.seq (.dreg [⟨[⟨(some 10), .p .move, [.tmp 0], none⟩,
    ⟨(some 11), .p .move, [.tmp 3], none⟩,
    ⟨(some 12), .p (.indexAddr 1), [.tmp 10, .tmp 11], none⟩,
    ⟨(some 13), .r (.load none), [.tmp 12], none⟩,
    ⟨(some 14), .p .move, [.tmp 3], none⟩,
    ⟨(some 15), .p .move, [.tmp 0], none⟩,
    ⟨(some 16), .p .move, [.tmp 3], none⟩,
    ⟨(some 17), .p (.indexAddr 1), [.tmp 15, .tmp 16], none⟩,
    ⟨(some 18), .r (.load none), [.tmp 17], none⟩,
    ⟨(some 19), .p .lenSl, [.tmp 18], none⟩], [], some ⟨(some 20), .h (.call 101), [.tmp 14, .lit (.int .i64 0), .tmp 19], none⟩⟩,
   ⟨[], [⟨(some 13), .r (.load none), [.tmp 12], none⟩], some ⟨(some 21), .h (.call 99), [.tmp 13, .tmp 20], none⟩⟩,
   ⟨[⟨(some 22), .p .not, [.tmp 21], none⟩], [], none⟩])
  (.cond (.tmp 22) (.seq (.reg [⟨(some 2), .p .move, [.lit (.bool false)], none⟩])
  .ret)
  .skip)))
  (.reg [⟨(some 8), .p .move, [.tmp 3], none⟩,
    ⟨(some 9), .p (.bin .add), [.tmp 8, .lit (.int .i64 1)], none⟩,
    ⟨(some 3), .p .move, [.tmp 9], none⟩]))))))
  (.seq (.reg [⟨(some 2), .p .move, [.lit (.bool true)], none⟩])
  .ret))), [.tmp 2]⟩
theorem c70 : cFunc Go.Proofs.Tryz.prog false 1 Go.Proofs.Tryz.f70 = some sf70 := by kernel_rfl

/-- rosary/rosarybook.markedLetters -/
def sf71 : SFunc := ⟨1, 23, (.seq (.reg [⟨(some 2), .p .move, [.lit (.bool false)], none⟩])
  (.seq (.seq (.reg [⟨(some 3), .p .move, [.lit (.int .i64 0)], none⟩])
  (.block 0 (.loop [0, 3] (.seq (.seq (.reg [⟨(some 4), .p .move, [.tmp 3], none⟩,
    ⟨(some 5), .p .move, [.tmp 0], none⟩,
    ⟨(some 6), .p .lenSl, [.tmp 5], none⟩,
    ⟨(some 7), .p (.bin .lss), [.tmp 4, .tmp 6], none⟩])
  (.cond (.tmp 7) .skip
  (.exit 0)))
  (.seq (.block 1 (.seq (.dreg [⟨[⟨(some 10), .p .move, [.tmp 0], none⟩,
    ⟨(some 11), .p .move, [.tmp 3], none⟩,
    ⟨(some 12), .p (.indexAddr 1), [.tmp 10, .tmp 11], none⟩,
    ⟨(some 13), .r (.load none), [.tmp 12], none⟩,
    ⟨(some 14), .p .move, [.tmp 3], none⟩,
    ⟨(some 15), .p .move, [.tmp 0], none⟩,
    ⟨(some 16), .p .move, [.tmp 3], none⟩,
    ⟨(some 17), .p (.indexAddr 1), [.tmp 15, .tmp 16], none⟩,
    ⟨(some 18), .r (.load none), [.tmp 17], none⟩,
    ⟨(some 19), .p .lenSl, [.tmp 18], none⟩], [], some ⟨(some 20), .h (.call 102), [.tmp 14, .lit (.int .i64 0), .tmp 19], none⟩⟩,
   ⟨[], [⟨(some 13), .r (.load none), [.tmp 12], none⟩], some ⟨(some 21), .h (.call 100), [.tmp 13, .tmp 20], none⟩⟩,
   ⟨[⟨(some 22), .p .not, [.tmp 21], none⟩], [], none⟩])
  (.cond (.tmp 22) (.seq (.reg [⟨(some 2), .p .move, [.lit (.bool false)], none⟩])
  .ret)
  .skip)))
  (.reg [⟨(some 8), .p .move, [.tmp 3], none⟩,
    ⟨(some 9), .p (.bin .add), [.tmp 8, .lit (.int .i64 1)], none⟩,
    ⟨(some 3), .p .move, [.tmp 9], none⟩]))))))
  (.seq (.reg [⟨(some 2), .p .move, [.lit (.bool true)], none⟩])
  .ret))), [.tmp 2]⟩
theorem c71 : cFunc Go.Proofs.Tryz.prog false 1 Go.Proofs.Tryz.f71 = some sf71 := by kernel_rfl

/-- rosary/pack.Num -/
def sf72 : SFunc := ⟨1, 13, (.seq (.reg [⟨(some 2), .p .move, [.lit (.str [])], none⟩,
    ⟨(some 3), .p .move, [.lit (.bool false)], none⟩])
  (.seq (.seq (.reg [⟨(some 4), .p .move, [.tmp 0], none⟩,
    ⟨(some 5), .p (.bin .lss), [.tmp 4, .lit (.int .i64 0)], none⟩,
    ⟨(some 6), .p .move, [.tmp 5], none⟩,
    ⟨(some 7), .p .move, [.tmp 0], some (6, false)⟩,
    ⟨(some 8), .p (.bin .gtr), [.tmp 7, .lit (.int .i64 65535)], some (6, false)⟩,
    ⟨(some 9), .p .pick, [.tmp 6, .lit (.bool true), .tmp 8], none⟩])
  (.cond (.tmp 9) (.seq (.reg [⟨(some 2), .p .move, [.lit (.str [])], none⟩,
    ⟨(some 3), .p .move, [.lit (.bool false)], none⟩])
  .ret)
  .skip))
  (.seq (.reg [⟨(some 10), .p .move, [.tmp 0], none⟩,
    ⟨(some 11), .p (.convInt .u64), [.tmp 10], none⟩,
    ⟨(some 12), .h (.call 74), [.tmp 11, .lit (.int .i64 2)], none⟩,
    ⟨(some 2), .p .move, [.tmp 12], none⟩,
    ⟨(some 3), .p .move, [.lit (.bool true)], none⟩])
  .ret))), [.tmp 2, .tmp 3]⟩
theorem c72 : cFunc Go.Proofs.Tryz.prog false 1 Go.Proofs.Tryz.f72 = some sf72 := by kernel_rfl

/-- rosary/pack.big -/
def sf74 : SFunc := ⟨2, 28, (.seq (.reg [⟨(some 4), .p .move, [.lit (.str [])], none⟩])
  (.seq (.reg [⟨(some 7), .p .move, [.tmp 1], none⟩,
    ⟨(some 8), .a (.makeSlice [(.int .u8 0)]), [.tmp 7, .tmp 7], none⟩,
    ⟨(some 5), .p .move, [.tmp 8], none⟩])
  (.seq (.seq (.reg [⟨(some 9), .p .move, [.tmp 5], none⟩,
    ⟨(some 10), .p .lenSl, [.tmp 9], none⟩,
    ⟨(some 11), .p .move, [.lit (.int .i64 0)], none⟩])
  (.block 0 (.loop [0, 1, 5, 10, 11] (.seq (.reg [⟨(some 12), .p (.bin .lss), [.tmp 11, .tmp 10], none⟩])
  (.seq (.cond (.tmp 12) .skip
  (.exit 0))
  (.seq (.block 1 (.seq (.reg [⟨(some 13), .p .move, [.tmp 11], none⟩,
    ⟨(some 6), .p .move, [.tmp 13], none⟩])
  (.reg [⟨(some 14), .p .move, [.tmp 5], none⟩,
    ⟨(some 15), .p .move, [.tmp 1], none⟩,
    ⟨(some 16), .p (.bin .sub), [.tmp 15, .lit (.int .i64 1)], none⟩,
    ⟨(some 17), .p .move, [.tmp 6], none⟩,
    ⟨(some 18), .p (.bin .sub), [.tmp 16, .tmp 17], none⟩,
    ⟨(some 19), .p .move, [.tmp 0], none⟩,
    ⟨(some 20), .p .move, [.tmp 6], none⟩,
    ⟨(some 21), .p (.bin .mul), [.lit (.int .i64 8), .tmp 20], none⟩,
    ⟨(some 22), .p (.bin .shr), [.tmp 19, .tmp 21], none⟩,
    ⟨(some 23), .p (.convInt .u8), [.tmp 22], none⟩,
    ⟨(some 24), .p (.indexAddr 1), [.tmp 14, .tmp 18], none⟩,
    ⟨none, .h (.store 1), [.tmp 24, .tmp 23], none⟩])))
  (.reg [⟨(some 25), .p (.bin .add), [.tmp 11, .lit (.int .i64 1)], none⟩,
    ⟨(some 11), .p .move, [.tmp 25], none⟩])))))))
  (.seq (.reg [⟨(some 26), .p .move, [.tmp 5], none⟩,
    ⟨(some 27), .r .toStr, [.tmp 26], none⟩,
    ⟨(some 4), .p .move, [.tmp 27], none⟩])
  .ret)))), [.tmp 4]⟩
theorem c74 : cFunc Go.Proofs.Tryz.prog false 2 Go.Proofs.Tryz.f74 = some sf74 := by kernel_rfl

/-- rosary/pack.Text -/
def sf75 : SFunc := ⟨1, 13, (.seq (.reg [⟨(some 2), .p .move, [.lit (.str [])], none⟩,
    ⟨(some 3), .p .move, [.lit (.bool false)], none⟩])
  (.seq (.seq (.reg [⟨(some 4), .p .move, [.tmp 0], none⟩,
    ⟨(some 5), .p .lenStr, [.tmp 4], none⟩,
    ⟨(some 6), .p (.bin .gtr), [.tmp 5, .lit (.int .i64 255)], none⟩])
  (.cond (.tmp 6) (.seq (.reg [⟨(some 2), .p .move, [.lit (.str [])], none⟩,
    ⟨(some 3), .p .move, [.lit (.bool false)], none⟩])
  .ret)
  .skip))
  (.seq (.reg [⟨(some 7), .p .move, [.tmp 0], none⟩,
    ⟨(some 8), .p .lenStr, [.tmp 7], none⟩,
    ⟨(some 9), .p (.convInt .u64), [.tmp 8], none⟩,
    ⟨(some 10), .h (.call 74), [.tmp 9, .lit (.int .i64 1)], none⟩,
    ⟨(some 11), .p .move, [.tmp 0], none⟩,
    ⟨(some 12), .p (.bin .add), [.tmp 10, .tmp 11], none⟩,
    ⟨(some 2), .p .move, [.tmp 12], none⟩,
    ⟨(some 3), .p .move, [.lit (.bool true)], none⟩])
  .ret))), [.tmp 2, .tmp 3]⟩
theorem c75 : cFunc Go.Proofs.Tryz.prog false 1 Go.Proofs.Tryz.f75 = some sf75 := by kernel_rfl

/-- slices.ContainsFunc[[]int,int] -/
def sf76 : SFunc := ⟨2, 9, (.seq (.reg [⟨(some 4), .p .move, [.lit (.bool false)], none⟩])
  (.seq (.reg [⟨(some 5), .p .move, [.tmp 0], none⟩,
    ⟨(some 6), .p .move, [.tmp 1], none⟩,
    ⟨(some 7), .h (.call 109), [.tmp 5, .tmp 6], none⟩,
    ⟨(some 8), .p (.bin .geq), [.tmp 7, .lit (.int .i64 0)], none⟩,
    ⟨(some 4), .p .move, [.tmp 8], none⟩])
  .ret)), [.tmp 4]⟩
theorem c76 : cFunc Go.Proofs.Tryz.prog false 2 Go.Proofs.Tryz.f76 = some sf76 := by kernel_rfl

/-- rosary/letter.small$1 -/
def sf77 : SFunc := ⟨1, 9, (.seq (.reg [⟨(some 2), .p .move, [.lit (.bool false)], none⟩])
  (.seq (.reg [⟨(some 3), .p .move, [.tmp 0], none⟩,
    ⟨(some 4), .p (.bin .lss), [.tmp 3, .lit (.int .i64 0)], none⟩,
    ⟨(some 5), .p .move, [.tmp 4], none⟩,
    ⟨(some 6), .p .move, [.tmp 0], some (5, false)⟩,
    ⟨(some 7), .p (.bin .gtr), [.tmp 6, .lit (.int .i64 255)], some (5, false)⟩,
    ⟨(some 8), .p .pick, [.tmp 5, .lit (.bool true), .tmp 7], none⟩,
    ⟨(some 2), .p .move, [.tmp 8], none⟩])
  .ret)), [.tmp 2]⟩
theorem c77 : cFunc Go.Proofs.Tryz.prog false 1 Go.Proofs.Tryz.f77 = some sf77 := by kernel_rfl

/-- rosary/letter.wide$1 -/
def sf78 : SFunc := ⟨1, 9, (.seq (.reg [⟨(some 2), .p .move, [.lit (.bool false)], none⟩])
  (.seq (.reg [⟨(some 3), .p .move, [.tmp 0], none⟩,
    ⟨(some 4), .p (.bin .lss), [.tmp 3, .lit (.int .i64 0)], none⟩,
    ⟨(some 5), .p .move, [.tmp 4], none⟩,
    ⟨(some 6), .p .move, [.tmp 0], some (5, false)⟩,
    ⟨(some 7), .p (.bin .gtr), [.tmp 6, .lit (.int .i64 65535)], some (5, false)⟩,
    ⟨(some 8), .p .pick, [.tmp 5, .lit (.bool true), .tmp 7], none⟩,
    ⟨(some 2), .p .move, [.tmp 8], none⟩])
  .ret)), [.tmp 2]⟩
theorem c78 : cFunc Go.Proofs.Tryz.prog false 1 Go.Proofs.Tryz.f78 = some sf78 := by kernel_rfl

/-- slices.ContainsFunc[[]string,string] -/
def sf79 : SFunc := ⟨2, 9, (.seq (.reg [⟨(some 4), .p .move, [.lit (.bool false)], none⟩])
  (.seq (.reg [⟨(some 5), .p .move, [.tmp 0], none⟩,
    ⟨(some 6), .p .move, [.tmp 1], none⟩,
    ⟨(some 7), .h (.call 110), [.tmp 5, .tmp 6], none⟩,
    ⟨(some 8), .p (.bin .geq), [.tmp 7, .lit (.int .i64 0)], none⟩,
    ⟨(some 4), .p .move, [.tmp 8], none⟩])
  .ret)), [.tmp 4]⟩
theorem c79 : cFunc Go.Proofs.Tryz.prog false 2 Go.Proofs.Tryz.f79 = some sf79 := by kernel_rfl

/-- rosary/letter.texts$1 -/
def sf80 : SFunc := ⟨1, 6, (.seq (.reg [⟨(some 2), .p .move, [.lit (.bool false)], none⟩])
  (.seq (.reg [⟨(some 3), .p .move, [.tmp 0], none⟩,
    ⟨(some 4), .p .lenStr, [.tmp 3], none⟩,
    ⟨(some 5), .p (.bin .gtr), [.tmp 4, .lit (.int .i64 255)], none⟩,
    ⟨(some 2), .p .move, [.tmp 5], none⟩])
  .ret)), [.tmp 2]⟩
theorem c80 : cFunc Go.Proofs.Tryz.prog false 1 Go.Proofs.Tryz.f80 = some sf80 := by kernel_rfl

/-- slices.ContainsFunc[[]rosary/api.Item,rosary/api.Item] -/
def sf81 : SFunc := ⟨2, 9, (.seq (.reg [⟨(some 4), .p .move, [.lit (.bool false)], none⟩])
  (.seq (.reg [⟨(some 5), .p .move, [.tmp 0], none⟩,
    ⟨(some 6), .p .move, [.tmp 1], none⟩,
    ⟨(some 7), .h (.call 111), [.tmp 5, .tmp 6], none⟩,
    ⟨(some 8), .p (.bin .geq), [.tmp 7, .lit (.int .i64 0)], none⟩,
    ⟨(some 4), .p .move, [.tmp 8], none⟩])
  .ret)), [.tmp 4]⟩
theorem c81 : cFunc Go.Proofs.Tryz.prog false 2 Go.Proofs.Tryz.f81 = some sf81 := by kernel_rfl

/-- rosary/letter.items$1 -/
def sf82 : SFunc := ⟨1, 10, (.seq (.reg [⟨(some 1), .a .box, [.tmp 0], none⟩,
    ⟨(some 2), .p .move, [.lit (.bool false)], none⟩])
  (.seq (.reg [⟨(some 3), .p (.fieldAddr 0), [.tmp 1], none⟩,
    ⟨(some 4), .r (.load none), [.tmp 3], none⟩,
    ⟨(some 5), .p (.fieldAddr 1), [.tmp 1], none⟩,
    ⟨(some 6), .r (.load none), [.tmp 5], none⟩,
    ⟨(some 7), .a (.buildSlice 1 2 [(.str [])] [0, 1]), [.tmp 4, .tmp 6], none⟩,
    ⟨(some 8), .h (.call 30), [.tmp 7], none⟩,
    ⟨(some 9), .p .not, [.tmp 8], none⟩,
    ⟨(some 2), .p .move, [.tmp 9], none⟩])
  .ret)), [.tmp 2]⟩
theorem c82 : cFunc Go.Proofs.Tryz.prog false 1 Go.Proofs.Tryz.f82 = some sf82 := by kernel_rfl

/-- rosary/letter.nums -/
def sf83 : SFunc := ⟨2, 19, (.scope (.seq .skip
  (.seq (.reg [⟨(some 6), .p .move, [.tmp 1], none⟩,
    ⟨(some 7), .p .lenSl, [.tmp 6], none⟩,
    ⟨(some 8), .p .move, [.lit (.int .i64 0)], none⟩])
  (.block 0 (.loop [0, 6, 7, 8] (.seq (.reg [⟨(some 9), .p (.bin .lss), [.tmp 8, .tmp 7], none⟩])
  (.seq (.cond (.tmp 9) .skip
  (.exit 0))
  (.seq (.block 1 (.seq (.reg [⟨(some 10), .p (.indexAddr 1), [.tmp 6, .tmp 8], none⟩,
    ⟨(some 11), .r (.load none), [.tmp 10], none⟩,
    ⟨(some 5), .p .move, [.tmp 11], none⟩])
  (.seq (.reg [⟨(some 12), .p .move, [.tmp 5], none⟩,
    ⟨(some 13), .p .move, [.tmp 0], none⟩,
    ⟨(some 14), .h (.call 87), [.tmp 13], none⟩,
    ⟨(some 15), .p .nilCheck, [.tmp 12], none⟩,
    ⟨none, .h (.store 1), [.tmp 15, .tmp 14], none⟩])
  (.seq (.reg [⟨(some 16), .p .move, [.tmp 0], none⟩,
    ⟨(some 17), .h (.call 88), [.tmp 16], none⟩])
  (.cond (.tmp 17) (.exit 0)
  .skip)))))
  (.reg [⟨(some 18), .p (.bin .add), [.tmp 8, .lit (.int .i64 1)], none⟩,
    ⟨(some 8), .p .move, [.tmp 18], none⟩]))))))))), []⟩
theorem c83 : cFunc Go.Proofs.Tryz.prog false 2 Go.Proofs.Tryz.f83 = some sf83 := by kernel_rfl

/-- (*rosary/pack.Reader).Wide -/
def sf84 : SFunc := ⟨1, 5, (.seq (.reg [⟨(some 2), .p .move, [.lit (.int .u64 0)], none⟩])
  (.seq (.reg [⟨(some 3), .p .move, [.tmp 0], none⟩,
    ⟨(some 4), .h (.call 112), [.tmp 3, .lit (.int .i64 8)], none⟩,
    ⟨(some 2), .p .move, [.tmp 4], none⟩])
  .ret)), [.tmp 2]⟩
theorem c84 : cFunc Go.Proofs.Tryz.prog false 1 Go.Proofs.Tryz.f84 = some sf84 := by kernel_rfl

/-- rosary/letter.list -/
def sf85 : SFunc := ⟨1, 31, (.seq (.reg [⟨(some 2), .p .move, [.lit .nilslice], none⟩])
  (.scope (.seq (.reg [⟨(some 3), .p .move, [.lit .nilslice], none⟩])
  (.seq .skip
  (.seq (.seq (.reg [⟨(some 7), .p .move, [.tmp 0], none⟩,
    ⟨(some 8), .h (.call 87), [.tmp 7], none⟩,
    ⟨(some 4), .p .move, [.tmp 8], none⟩])
  (.block 0 (.loop [0, 3, 4] (.seq (.seq (.reg [⟨(some 9), .p .move, [.tmp 4], none⟩,
    ⟨(some 10), .p (.bin .gtr), [.tmp 9, .lit (.int .i64 0)], none⟩])
  (.cond (.tmp 10) .skip
  (.exit 0)))
  (.seq (.block 1 (.seq (.reg [⟨(some 13), .p .move, [.tmp 0], none⟩,
    ⟨(some 14), .h (.call 86), [.tmp 13], none⟩,
    ⟨(some 15), .p .move, [.tmp 0], none⟩,
    ⟨(some 16), .h (.call 86), [.tmp 15], none⟩,
    ⟨(some 5), .p .move, [.tmp 14], none⟩,
    ⟨(some 6), .p .move, [.tmp 16], none⟩])
  (.seq (.seq (.reg [⟨(some 17), .p .move, [.tmp 0], none⟩,
    ⟨(some 18), .h (.call 88), [.tmp 17], none⟩,
    ⟨(some 19), .p .move, [.tmp 18], none⟩,
    ⟨(some 20), .p .move, [.tmp 3], some (19, false)⟩,
    ⟨(some 21), .p .lenSl, [.tmp 20], some (19, false)⟩,
    ⟨(some 22), .p (.bin .gtr), [.tmp 21, .lit (.int .i64 40)], some (19, false)⟩,
    ⟨(some 23), .p .pick, [.tmp 19, .lit (.bool true), .tmp 22], none⟩])
  (.cond (.tmp 23) (.exit 0)
  .skip))
  (.reg [⟨(some 24), .p .move, [.tmp 3], none⟩,
    ⟨(some 25), .p .move, [.tmp 5], none⟩,
    ⟨(some 26), .p .move, [.tmp 6], none⟩,
    ⟨(some 27), .p (.build [(.str []), (.str [])] [(0, 1), (1, 1)]), [.tmp 25, .tmp 26], none⟩,
    ⟨(some 28), .a (.buildSlice 2 1 [(.str []), (.str [])] [0]), [.tmp 27], none⟩,
    ⟨(some 29), .h (.append 2 false), [.tmp 24, .tmp 28], none⟩,
    ⟨(some 3), .p .move, [.tmp 29], none⟩]))))
  (.reg [⟨(some 11), .p .move, [.tmp 4], none⟩,
    ⟨(some 12), .p (.bin .sub), [.tmp 11, .lit (.int .i64 1)], none⟩,
    ⟨(some 4), .p .move, [.tmp 12], none⟩]))))))
  (.seq (.reg [⟨(some 30), .p .move, [.tmp 3], none⟩,
    ⟨(some 2), .p .move, [.tmp 30], none⟩])
  .ret)))))), [.tmp 2]⟩
theorem c85 : cFunc Go.Proofs.Tryz.prog false 1 Go.Proofs.Tryz.f85 = some sf85 := by kernel_rfl

/-- (*rosary/pack.Reader).Text -/
def sf86 : SFunc := ⟨1, 8, (.seq (.reg [⟨(some 2), .p .move, [.lit (.str [])], none⟩])
  (.seq (.reg [⟨(some 3), .p .move, [.tmp 0], none⟩,
    ⟨(some 4), .p .move, [.tmp 0], none⟩,
    ⟨(some 5), .h (.call 112), [.tmp 4, .lit (.int .i64 1)], none⟩,
    ⟨(some 6), .p (.convInt .i64), [.tmp 5], none⟩,
    ⟨(some 7), .h (.call 113), [.tmp 3, .tmp 6], none⟩,
    ⟨(some 2), .p .move, [.tmp 7], none⟩])
  .ret)), [.tmp 2]⟩
theorem c86 : cFunc Go.Proofs.Tryz.prog false 1 Go.Proofs.Tryz.f86 = some sf86 := by kernel_rfl

/-- (*rosary/pack.Reader).Num -/
def sf87 : SFunc := ⟨1, 6, (.seq (.reg [⟨(some 2), .p .move, [.lit (.int .i64 0)], none⟩])
  (.seq (.reg [⟨(some 3), .p .move, [.tmp 0], none⟩,
    ⟨(some 4), .h (.call 112), [.tmp 3, .lit (.int .i64 2)], none⟩,
    ⟨(some 5), .p (.convInt .i64), [.tmp 4], none⟩,
    ⟨(some 2), .p .move, [.tmp 5], none⟩])
  .ret)), [.tmp 2]⟩
theorem c87 : cFunc Go.Proofs.Tryz.prog false 1 Go.Proofs.Tryz.f87 = some sf87 := by kernel_rfl

/-- (*rosary/pack.Reader).Bad -/
def sf88 : SFunc := ⟨1, 11, (.seq (.reg [⟨(some 2), .p .move, [.lit (.bool false)], none⟩])
  (.seq (.reg [⟨(some 3), .p .move, [.tmp 0], none⟩,
    ⟨(some 4), .p (.eq false .ptr), [.tmp 3, .lit .nilptr], none⟩,
    ⟨(some 5), .p .move, [.tmp 4], none⟩,
    ⟨(some 6), .p .move, [.tmp 0], some (5, false)⟩,
    ⟨(some 7), .p .nilCheck, [.tmp 6], some (5, false)⟩,
    ⟨(some 8), .p (.fieldAddr 1), [.tmp 7], some (5, false)⟩,
    ⟨(some 9), .r (.load none), [.tmp 8], some (5, false)⟩,
    ⟨(some 10), .p .pick, [.tmp 5, .lit (.bool true), .tmp 9], none⟩,
    ⟨(some 2), .p .move, [.tmp 10], none⟩])
  .ret)), [.tmp 2]⟩
theorem c88 : cFunc Go.Proofs.Tryz.prog false 1 Go.Proofs.Tryz.f88 = some sf88 := by kernel_rfl

/-- (*rosary/rosaryref1.Reader).Num -/
def sf89 : SFunc := ⟨1, 14, (.seq (.reg [⟨(some 2), .p .move, [.lit (.int .i64 0)], none⟩])
  (.seq (.reg [⟨(some 4), .p .move, [.tmp 0], none⟩,
    ⟨(some 5), .h (.call 114), [.tmp 4, .lit (.int .i64 2)], none⟩,
    ⟨(some 3), .p .move, [.tmp 5], none⟩])
  (.seq (.dreg [⟨[⟨(some 6), .p .move, [.tmp 3], none⟩,
    ⟨(some 7), .p .indexStr, [.tmp 6, .lit (.int .i64 0)], none⟩,
    ⟨(some 8), .p (.convInt .i64), [.tmp 7], none⟩,
    ⟨(some 9), .p (.bin .mul), [.tmp 8, .lit (.int .i64 256)], none⟩,
    ⟨(some 10), .p .move, [.tmp 3], none⟩,
    ⟨(some 11), .p .indexStr, [.tmp 10, .lit (.int .i64 1)], none⟩,
    ⟨(some 12), .p (.convInt .i64), [.tmp 11], none⟩,
    ⟨(some 13), .p (.bin .add), [.tmp 9, .tmp 12], none⟩,
    ⟨(some 2), .p .move, [.tmp 13], none⟩], [], none⟩])
  .ret))), [.tmp 2]⟩
theorem c89 : cFunc Go.Proofs.Tryz.prog false 1 Go.Proofs.Tryz.f89 = some sf89 := by kernel_rfl

/-- (*rosary/rosaryref1.Reader).Wide -/
def sf90 : SFunc := ⟨1, 12, (.seq (.reg [⟨(some 2), .p .move, [.lit (.int .u64 0)], none⟩])
  (.seq (.reg [⟨(some 4), .p .move, [.tmp 0], none⟩,
    ⟨(some 5), .h (.call 114), [.tmp 4, .lit (.int .i64 8)], none⟩,
    ⟨(some 3), .p .move, [.tmp 5], none⟩])
  (.seq (.seq (.reg [⟨(some 6), .p .move, [.tmp 0], none⟩,
    ⟨(some 7), .p .nilCheck, [.tmp 6], none⟩,
    ⟨(some 8), .p (.fieldAddr 1), [.tmp 7], none⟩,
    ⟨(some 9), .r (.load none), [.tmp 8], none⟩])
  (.cond (.tmp 9) (.seq (.reg [⟨(some 2), .p .move, [.lit (.int .u64 0)], none⟩])
  .ret)
  .skip))
  (.seq (.reg [⟨(some 10), .p .move, [.tmp 3], none⟩,
    ⟨(some 11), .h (.call 115), [.tmp 10], none⟩,
    ⟨(some 2), .p .move, [.tmp 11], none⟩])
  .ret)))), [.tmp 2]⟩
theorem c90 : cFunc Go.Proofs.Tryz.prog false 1 Go.Proofs.Tryz.f90 = some sf90 := by kernel_rfl

/-- (*rosary/rosaryref1.Reader).items -/
def sf91 : SFunc := ⟨1, 29, (.seq (.reg [⟨(some 2), .p .move, [.lit .nilslice], none⟩])
  (.seq (.reg [⟨(some 6), .p .move, [.tmp 0], none⟩,
    ⟨(some 7), .h (.call 89), [.tmp 6], none⟩,
    ⟨(some 3), .p .move, [.tmp 7], none⟩])
  (.seq (.reg [⟨(some 4), .p .move, [.lit .nilslice], none⟩])
  (.seq (.seq (.reg [⟨(some 5), .p .move, [.lit (.int .i64 0)], none⟩])
  (.block 0 (.loop [0, 3, 4, 5] (.seq (.seq (.reg [⟨(some 8), .p .move, [.tmp 5], none⟩,
    ⟨(some 9), .p .move, [.tmp 3], none⟩,
    ⟨(some 10), .p (.bin .lss), [.tmp 8, .tmp 9], none⟩,
    ⟨(some 11), .p .move, [.tmp 10], none⟩,
    ⟨(some 12), .p .move, [.tmp 0], some (11, true)⟩,
    ⟨(some 13), .p .nilCheck, [.tmp 12], some (11, true)⟩,
    ⟨(some 14), .p (.fieldAddr 1), [.tmp 13], some (11, true)⟩,
    ⟨(some 15), .r (.load none), [.tmp 14], some (11, true)⟩,
    ⟨(some 16), .p .not, [.tmp 15], some (11, true)⟩,
    ⟨(some 17), .p .pick, [.tmp 11, .tmp 16, .lit (.bool false)], none⟩])
  (.cond (.tmp 17) .skip
  (.exit 0)))
  (.seq (.block 1 (.reg [⟨(some 20), .p .move, [.tmp 4], none⟩,
    ⟨(some 21), .p .move, [.tmp 0], none⟩,
    ⟨(some 22), .h (.call 92), [.tmp 21], none⟩,
    ⟨(some 23), .p .move, [.tmp 0], none⟩,
    ⟨(some 24), .h (.call 92), [.tmp 23], none⟩,
    ⟨(some 25), .p (.build [(.str []), (.str [])] [(0, 1), (1, 1)]), [.tmp 22, .tmp 24], none⟩,
    ⟨(some 26), .a (.buildSlice 2 1 [(.str []), (.str [])] [0]), [.tmp 25], none⟩,
    ⟨(some 27), .h (.append 2 false), [.tmp 20, .tmp 26], none⟩,
    ⟨(some 4), .p .move, [.tmp 27], none⟩]))
  (.reg [⟨(some 18), .p .move, [.tmp 5], none⟩,
    ⟨(some 19), .p (.bin .add), [.tmp 18, .lit (.int .i64 1)], none⟩,
    ⟨(some 5), .p .move, [.tmp 19], none⟩]))))))
  (.seq (.reg [⟨(some 28), .p .move, [.tmp 4], none⟩,
    ⟨(some 2), .p .move, [.tmp 28], none⟩])
  .ret))))), [.tmp 2]⟩
theorem c91 : cFunc Go.Proofs.Tryz.prog false 1 Go.Proofs.Tryz.f91 = some sf91 := by kernel_rfl

/-- (*rosary/rosaryref1.Reader).Text -/
def sf92 : SFunc := ⟨1, 17, (.seq (.reg [⟨(some 2), .p .move, [.lit (.str [])], none⟩])
  (.seq (.reg [⟨(some 5), .p .move, [.tmp 0], none⟩,
    ⟨(some 6), .h (.call 114), [.tmp 5, .lit (.int .i64 1)], none⟩,
    ⟨(some 7), .p .indexStr, [.tmp 6, .lit (.int .i64 0)], none⟩,
    ⟨(some 8), .p (.convInt .i64), [.tmp 7], none⟩,
    ⟨(some 3), .p .move, [.tmp 8], none⟩])
  (.seq (.reg [⟨(some 9), .p .move, [.tmp 0], none⟩,
    ⟨(some 10), .p .move, [.tmp 3], none⟩,
    ⟨(some 11), .h (.call 114), [.tmp 9, .tmp 10], none⟩,
    ⟨(some 4), .p .move, [.tmp 11], none⟩])
  (.seq (.seq (.reg [⟨(some 12), .p .move, [.tmp 0], none⟩,
    ⟨(some 13), .p .nilCheck, [.tmp 12], none⟩,
    ⟨(some 14), .p (.fieldAddr 1), [.tmp 13], none⟩,
    ⟨(some 15), .r (.load none), [.tmp 14], none⟩])
  (.cond (.tmp 15) (.seq (.reg [⟨(some 2), .p .move, [.lit (.str [])], none⟩])
  .ret)
  .skip))
  (.seq (.reg [⟨(some 16), .p .move, [.tmp 4], none⟩,
    ⟨(some 2), .p .move, [.tmp 16], none⟩])
  .ret))))), [.tmp 2]⟩
theorem c92 : cFunc Go.Proofs.Tryz.prog false 1 Go.Proofs.Tryz.f92 = some sf92 := by kernel_rfl

/-- rosary/rosarybook.SameTexts -/
def sf95 : SFunc := ⟨2, 27, (.seq (.reg [⟨(some 4), .p .move, [.lit (.bool false)], none⟩])
  (.seq (.seq (.reg [⟨(some 6), .p .move, [.tmp 0], none⟩,
    ⟨(some 7), .p .lenSl, [.tmp 6], none⟩,
    ⟨(some 8), .p .move, [.tmp 1], none⟩,
    ⟨(some 9), .p .lenSl, [.tmp 8], none⟩,
    ⟨(some 10), .p (.bin .neq), [.tmp 7, .tmp 9], none⟩])
  (.cond (.tmp 10) (.seq (.reg [⟨(some 4), .p .move, [.lit (.bool false)], none⟩])
  .ret)
  .skip))
  (.seq (.seq (.reg [⟨(some 5), .p .move, [.lit (.int .i64 0)], none⟩])
  (.block 0 (.loop [0, 1, 5] (.seq (.seq (.reg [⟨(some 11), .p .move, [.tmp 5], none⟩,
    ⟨(some 12), .p .move, [.tmp 0], none⟩,
    ⟨(some 13), .p .lenSl, [.tmp 12], none⟩,
    ⟨(some 14), .p (.bin .lss), [.tmp 11, .tmp 13], none⟩])
  (.cond (.tmp 14) .skip
  (.exit 0)))
  (.seq (.block 1 (.seq (.dreg [⟨[⟨(some 17), .p .move, [.tmp 0], none⟩,
    ⟨(some 18), .p .move, [.tmp 5], none⟩,
    ⟨(some 19), .p (.indexAddr 1), [.tmp 17, .tmp 18], none⟩,
    ⟨(some 20), .r (.load none), [.tmp 19], none⟩,
    ⟨(some 21), .p .move, [.tmp 1], none⟩,
    ⟨(some 22), .p .move, [.tmp 5], none⟩,
    ⟨(some 23), .p (.indexAddr 1), [.tmp 21, .tmp 22], none⟩,
    ⟨(some 24), .r (.load none), [.tmp 23], none⟩,
    ⟨(some 25), .p (.bin .eql), [.tmp 20, .tmp 24], none⟩,
    ⟨(some 26), .p .not, [.tmp 25], none⟩], [], none⟩])
  (.cond (.tmp 26) (.seq (.reg [⟨(some 4), .p .move, [.lit (.bool false)], none⟩])
  .ret)
  .skip)))
  (.reg [⟨(some 15), .p .move, [.tmp 5], none⟩,
    ⟨(some 16), .p (.bin .add), [.tmp 15, .lit (.int .i64 1)], none⟩,
    ⟨(some 5), .p .move, [.tmp 16], none⟩]))))))
  (.seq (.reg [⟨(some 4), .p .move, [.lit (.bool true)], none⟩])
  .ret)))), [.tmp 4]⟩
theorem c95 : cFunc Go.Proofs.Tryz.prog false 2 Go.Proofs.Tryz.f95 = some sf95 := by kernel_rfl

/-- rosary/rosarybook.SameInts -/
def sf96 : SFunc := ⟨2, 27, (.seq (.reg [⟨(some 4), .p .move, [.lit (.bool false)], none⟩])
  (.seq (.seq (.reg [⟨(some 6), .p .move, [.tmp 0], none⟩,
    ⟨(some 7), .p .lenSl, [.tmp 6], none⟩,
    ⟨(some 8), .p .move, [.tmp 1], none⟩,
    ⟨(some 9), .p .lenSl, [.tmp 8], none⟩,
    ⟨(some 10), .p (.bin .neq), [.tmp 7, .tmp 9], none⟩])
  (.cond (.tmp 10) (.seq (.reg [⟨(some 4), .p .move, [.lit (.bool false)], none⟩])
  .ret)
  .skip))
  (.seq (.seq (.reg [⟨(some 5), .p .move, [.lit (.int .i64 0)], none⟩])
  (.block 0 (.loop [0, 1, 5] (.seq (.seq (.reg [⟨(some 11), .p .move, [.tmp 5], none⟩,
    ⟨(some 12), .p .move, [.tmp 0], none⟩,
    ⟨(some 13), .p .lenSl, [.tmp 12], none⟩,
    ⟨(some 14), .p (.bin .lss), [.tmp 11, .tmp 13], none⟩])
  (.cond (.tmp 14) .skip
  (.exit 0)))
  (.seq (.block 1 (.seq (.dreg [⟨[⟨(some 17), .p .move, [.tmp 0], none⟩,
    ⟨(some 18), .p .move, [.tmp 5], none⟩,
    ⟨(some 19), .p (.indexAddr 1), [.tmp 17, .tmp 18], none⟩,
    ⟨(some 20), .r (.load none), [.tmp 19], none⟩,
    ⟨(some 21), .p .move, [.tmp 1], none⟩,
    ⟨(some 22), .p .move, [.tmp 5], none⟩,
    ⟨(some 23), .p (.indexAddr 1), [.tmp 21, .tmp 22], none⟩,
    ⟨(some 24), .r (.load none), [.tmp 23], none⟩,
    ⟨(some 25), .p (.bin .eql), [.tmp 20, .tmp 24], none⟩,
    ⟨(some 26), .p .not, [.tmp 25], none⟩], [], none⟩])
  (.cond (.tmp 26) (.seq (.reg [⟨(some 4), .p .move, [.lit (.bool false)], none⟩])
  .ret)
  .skip)))
  (.reg [⟨(some 15), .p .move, [.tmp 5], none⟩,
    ⟨(some 16), .p (.bin .add), [.tmp 15, .lit (.int .i64 1)], none⟩,
    ⟨(some 5), .p .move, [.tmp 16], none⟩]))))))
  (.seq (.reg [⟨(some 4), .p .move, [.lit (.bool true)], none⟩])
  .ret)))), [.tmp 4]⟩
theorem c96 : cFunc Go.Proofs.Tryz.prog false 2 Go.Proofs.Tryz.f96 = some sf96 := by kernel_rfl

/-- rosary/rosarybook.SamePoints -/
def sf97 : SFunc := ⟨2, 27, (.seq (.reg [⟨(some 4), .p .move, [.lit (.bool false)], none⟩])
  (.seq (.seq (.reg [⟨(some 6), .p .move, [.tmp 0], none⟩,
    ⟨(some 7), .p .lenSl, [.tmp 6], none⟩,
    ⟨(some 8), .p .move, [.tmp 1], none⟩,
    ⟨(some 9), .p .lenSl, [.tmp 8], none⟩,
    ⟨(some 10), .p (.bin .neq), [.tmp 7, .tmp 9], none⟩])
  (.cond (.tmp 10) (.seq (.reg [⟨(some 4), .p .move, [.lit (.bool false)], none⟩])
  .ret)
  .skip))
  (.seq (.seq (.reg [⟨(some 5), .p .move, [.lit (.int .i64 0)], none⟩])
  (.block 0 (.loop [0, 1, 5] (.seq (.seq (.reg [⟨(some 11), .p .move, [.tmp 5], none⟩,
    ⟨(some 12), .p .move, [.tmp 0], none⟩,
    ⟨(some 13), .p .lenSl, [.tmp 12], none⟩,
    ⟨(some 14), .p (.bin .lss), [.tmp 11, .tmp 13], none⟩])
  (.cond (.tmp 14) .skip
  (.exit 0)))
  (.seq (.block 1 (.seq (.dreg [⟨[⟨(some 17), .p .move, [.tmp 0], none⟩,
    ⟨(some 18), .p .move, [.tmp 5], none⟩,
    ⟨(some 19), .p (.indexAddr 1), [.tmp 17, .tmp 18], none⟩,
    ⟨(some 20), .r (.load none), [.tmp 19], none⟩,
    ⟨(some 21), .p .move, [.tmp 1], none⟩,
    ⟨(some 22), .p .move, [.tmp 5], none⟩,
    ⟨(some 23), .p (.indexAddr 1), [.tmp 21, .tmp 22], none⟩,
    ⟨(some 24), .r (.load none), [.tmp 23], none⟩,
    ⟨(some 25), .p (.bin .eql), [.tmp 20, .tmp 24], none⟩,
    ⟨(some 26), .p .not, [.tmp 25], none⟩], [], none⟩])
  (.cond (.tmp 26) (.seq (.reg [⟨(some 4), .p .move, [.lit (.bool false)], none⟩])
  .ret)
  .skip)))
  (.reg [⟨(some 15), .p .move, [.tmp 5], none⟩,
    ⟨(some 16), .p (.bin .add), [.tmp 15, .lit (.int .i64 1)], none⟩,
    ⟨(some 5), .p .move, [.tmp 16], none⟩]))))))
  (.seq (.reg [⟨(some 4), .p .move, [.lit (.bool true)], none⟩])
  .ret)))), [.tmp 4]⟩
theorem c97 : cFunc Go.Proofs.Tryz.prog false 2 Go.Proofs.Tryz.f97 = some sf97 := by kernel_rfl

/-- rosary/rosarybook.SameOwneds -/
def sf98 : SFunc := ⟨2, 27, (.seq (.reg [⟨(some 4), .p .move, [.lit (.bool false)], none⟩])
  (.seq (.seq (.reg [⟨(some 6), .p .move, [.tmp 0], none⟩,
    ⟨(some 7), .p .lenSl, [.tmp 6], none⟩,
    ⟨(some 8), .p .move, [.tmp 1], none⟩,
    ⟨(some 9), .p .lenSl, [.tmp 8], none⟩,
    ⟨(some 10), .p (.bin .neq), [.tmp 7, .tmp 9], none⟩])
  (.cond (.tmp 10) (.seq (.reg [⟨(some 4), .p .move, [.lit (.bool false)], none⟩])
  .ret)
  .skip))
  (.seq (.seq (.reg [⟨(some 5), .p .move, [.lit (.int .i64 0)], none⟩])
  (.block 0 (.loop [0, 1, 5] (.seq (.seq (.reg [⟨(some 11), .p .move, [.tmp 5], none⟩,
    ⟨(some 12), .p .move, [.tmp 0], none⟩,
    ⟨(some 13), .p .lenSl, [.tmp 12], none⟩,
    ⟨(some 14), .p (.bin .lss), [.tmp 11, .tmp 13], none⟩])
  (.cond (.tmp 14) .skip
  (.exit 0)))
  (.seq (.block 1 (.seq (.dreg [⟨[⟨(some 17), .p .move, [.tmp 0], none⟩,
    ⟨(some 18), .p .move, [.tmp 5], none⟩,
    ⟨(some 19), .p (.indexAddr 4), [.tmp 17, .tmp 18], none⟩,
    ⟨(some 20), .r (.load (some 4)), [.tmp 19], none⟩,
    ⟨(some 21), .p .move, [.tmp 1], none⟩,
    ⟨(some 22), .p .move, [.tmp 5], none⟩,
    ⟨(some 23), .p (.indexAddr 4), [.tmp 21, .tmp 22], none⟩,
    ⟨(some 24), .r (.load (some 4)), [.tmp 23], none⟩,
    ⟨(some 25), .p (.eq false (.agg [.int, .int, .int, .int])), [.tmp 20, .tmp 24], none⟩,
    ⟨(some 26), .p .not, [.tmp 25], none⟩], [], none⟩])
  (.cond (.tmp 26) (.seq (.reg [⟨(some 4), .p .move, [.lit (.bool false)], none⟩])
  .ret)
  .skip)))
  (.reg [⟨(some 15), .p .move, [.tmp 5], none⟩,
    ⟨(some 16), .p (.bin .add), [.tmp 15, .lit (.int .i64 1)], none⟩,
    ⟨(some 5), .p .move, [.tmp 16], none⟩]))))))
  (.seq (.reg [⟨(some 4), .p .move, [.lit (.bool true)], none⟩])
  .ret)))), [.tmp 4]⟩
theorem c98 : cFunc Go.Proofs.Tryz.prog false 2 Go.Proofs.Tryz.f98 = some sf98 := by kernel_rfl

/-- rosary/rosarybook.SameEvents -/
def sf99 : SFunc := ⟨2, 27, (.seq (.reg [⟨(some 4), .p .move, [.lit (.bool false)], none⟩])
  (.seq (.seq (.reg [⟨(some 6), .p .move, [.tmp 0], none⟩,
    ⟨(some 7), .p .lenSl, [.tmp 6], none⟩,
    ⟨(some 8), .p .move, [.tmp 1], none⟩,
    ⟨(some 9), .p .lenSl, [.tmp 8], none⟩,
    ⟨(some 10), .p (.bin .neq), [.tmp 7, .tmp 9], none⟩])
  (.cond (.tmp 10) (.seq (.reg [⟨(some 4), .p .move, [.lit (.bool false)], none⟩])
  .ret)
  .skip))
  (.seq (.seq (.reg [⟨(some 5), .p .move, [.lit (.int .i64 0)], none⟩])
  (.block 0 (.loop [0, 1, 5] (.seq (.seq (.reg [⟨(some 11), .p .move, [.tmp 5], none⟩,
    ⟨(some 12), .p .move, [.tmp 0], none⟩,
    ⟨(some 13), .p .lenSl, [.tmp 12], none⟩,
    ⟨(some 14), .p (.bin .lss), [.tmp 11, .tmp 13], none⟩])
  (.cond (.tmp 14) .skip
  (.exit 0)))
  (.seq (.block 1 (.seq (.dreg [⟨[⟨(some 17), .p .move, [.tmp 0], none⟩,
    ⟨(some 18), .p .move, [.tmp 5], none⟩,
    ⟨(some 19), .p (.indexAddr 15), [.tmp 17, .tmp 18], none⟩,
    ⟨(some 20), .r (.load (some 15)), [.tmp 19], none⟩,
    ⟨(some 21), .p .move, [.tmp 1], none⟩,
    ⟨(some 22), .p .move, [.tmp 5], none⟩,
    ⟨(some 23), .p (.indexAddr 15), [.tmp 21, .tmp 22], none⟩,
    ⟨(some 24), .r (.load (some 15)), [.tmp 23], none⟩], [], some ⟨(some 25), .h (.call 117), [.tmp 20, .tmp 24], none⟩⟩,
   ⟨[⟨(some 26), .p .not, [.tmp 25], none⟩], [], none⟩])
  (.cond (.tmp 26) (.seq (.reg [⟨(some 4), .p .move, [.lit (.bool false)], none⟩])
  .ret)
  .skip)))
  (.reg [⟨(some 15), .p .move, [.tmp 5], none⟩,
    ⟨(some 16), .p (.bin .add), [.tmp 15, .lit (.int .i64 1)], none⟩,
    ⟨(some 5), .p .move, [.tmp 16], none⟩]))))))
  (.seq (.reg [⟨(some 4), .p .move, [.lit (.bool true)], none⟩])
  .ret)))), [.tmp 4]⟩
theorem c99 : cFunc Go.Proofs.Tryz.prog false 2 Go.Proofs.Tryz.f99 = some sf99 := by kernel_rfl

/-- rosary/rosarybook.SameLetters -/
def sf100 : SFunc := ⟨2, 27, (.seq (.reg [⟨(some 4), .p .move, [.lit (.bool false)], none⟩])
  (.seq (.seq (.reg [⟨(some 6), .p .move, [.tmp 0], none⟩,
    ⟨(some 7), .p .lenSl, [.tmp 6], none⟩,
    ⟨(some 8), .p .move, [.tmp 1], none⟩,
    ⟨(some 9), .p .lenSl, [.tmp 8], none⟩,
    ⟨(some 10), .p (.bin .neq), [.tmp 7, .tmp 9], none⟩])
  (.cond (.tmp 10) (.seq (.reg [⟨(some 4), .p .move, [.lit (.bool false)], none⟩])
  .ret)
  .skip))
  (.seq (.seq (.reg [⟨(some 5), .p .move, [.lit (.int .i64 0)], none⟩])
  (.block 0 (.loop [0, 1, 5] (.seq (.seq (.reg [⟨(some 11), .p .move, [.tmp 5], none⟩,
    ⟨(some 12), .p .move, [.tmp 0], none⟩,
    ⟨(some 13), .p .lenSl, [.tmp 12], none⟩,
    ⟨(some 14), .p (.bin .lss), [.tmp 11, .tmp 13], none⟩])
  (.cond (.tmp 14) .skip
  (.exit 0)))
  (.seq (.block 1 (.seq (.dreg [⟨[⟨(some 17), .p .move, [.tmp 0], none⟩,
    ⟨(some 18), .p .move, [.tmp 5], none⟩,
    ⟨(some 19), .p (.indexAddr 21), [.tmp 17, .tmp 18], none⟩,
    ⟨(some 20), .r (.load (some 21)), [.tmp 19], none⟩,
    ⟨(some 21), .p .move, [.tmp 1], none⟩,
    ⟨(some 22), .p .move, [.tmp 5], none⟩,
    ⟨(some 23), .p (.indexAddr 21), [.tmp 21, .tmp 22], none⟩,
    ⟨(some 24), .r (.load (some 21)), [.tmp 23], none⟩], [], some ⟨(some 25), .h (.call 15), [.tmp 20, .tmp 24], none⟩⟩,
   ⟨[⟨(some 26), .p .not, [.tmp 25], none⟩], [], none⟩])
  (.cond (.tmp 26) (.seq (.reg [⟨(some 4), .p .move, [.lit (.bool false)], none⟩])
  .ret)
  .skip)))
  (.reg [⟨(some 15), .p .move, [.tmp 5], none⟩,
    ⟨(some 16), .p (.bin .add), [.tmp 15, .lit (.int .i64 1)], none⟩,
    ⟨(some 5), .p .move, [.tmp 16], none⟩]))))))
  (.seq (.reg [⟨(some 4), .p .move, [.lit (.bool true)], none⟩])
  .ret)))), [.tmp 4]⟩
theorem c100 : cFunc Go.Proofs.Tryz.prog false 2 Go.Proofs.Tryz.f100 = some sf100 := by kernel_rfl

/-- rosary/rosarybook.markEvents -/
def sf101 : SFunc := ⟨3, 27, (.seq (.reg [⟨(some 6), .p .move, [.lit .nilslice], none⟩])
  (.seq (.reg [⟨(some 7), .p .move, [.lit .nilslice], none⟩])
  (.seq (.seq (.reg [⟨(some 9), .p .move, [.tmp 1], none⟩,
    ⟨(some 8), .p .move, [.tmp 9], none⟩])
  (.block 0 (.loop [0, 1, 2, 7, 8] (.seq (.seq (.reg [⟨(some 10), .p .move, [.tmp 8], none⟩,
    ⟨(some 11), .p .move, [.tmp 1], none⟩,
    ⟨(some 12), .p .move, [.tmp 2], none⟩,
    ⟨(some 13), .p (.bin .add), [.tmp 11, .tmp 12], none⟩,
    ⟨(some 14), .p (.bin .lss), [.tmp 10, .tmp 13], none⟩])
  (.cond (.tmp 14) .skip
  (.exit 0)))
  (.seq (.block 1 (.reg [⟨(some 17), .p .move, [.tmp 7], none⟩,
    ⟨(some 18), .p .move, [.tmp 0], none⟩,
    ⟨(some 19), .p (.bin .mul), [.lit (.int .i64 (-1000)), .tmp 18], none⟩,
    ⟨(some 20), .p .move, [.tmp 8], none⟩,
    ⟨(some 21), .p (.bin .sub), [.tmp 19, .tmp 20], none⟩,
    ⟨(some 22), .p (.bin .sub), [.tmp 21, .lit (.int .i64 1)], none⟩,
    ⟨(some 23), .p (.build [(.int .i64 0), (.int .i64 0), (.int .i64 0), (.int .i64 0), (.int .i64 0), (.str []), (.str []), (.str []), (.int .i64 0), (.int .i64 0), (.str []), .nilslice, (.bool false), (.str []), (.int .i64 0)] [(0, 1)]), [.tmp 22], none⟩,
    ⟨(some 24), .a (.buildSlice 15 1 [(.int .i64 0), (.int .i64 0), (.int .i64 0), (.int .i64 0), (.int .i64 0), (.str []), (.str []), (.str []), (.int .i64 0), (.int .i64 0), (.str []), .nilslice, (.bool false), (.str []), (.int .i64 0)] [0]), [.tmp 23], none⟩,
    ⟨(some 25), .h (.append 15 false), [.tmp 17, .tmp 24], none⟩,
    ⟨(some 7), .p .move, [.tmp 25], none⟩]))
  (.reg [⟨(some 15), .p .move, [.tmp 8], none⟩,
    ⟨(some 16), .p (.bin .add), [.tmp 15, .lit (.int .i64 1)], none⟩,
    ⟨(some 8), .p .move, [.tmp 16], none⟩]))))))
  (.seq (.reg [⟨(some 26), .p .move, [.tmp 7], none⟩,
    ⟨(some 6), .p .move, [.tmp 26], none⟩])
  .ret)))), [.tmp 6]⟩
theorem c101 : cFunc Go.Proofs.Tryz.prog false 3 Go.Proofs.Tryz.f101 = some sf101 := by kernel_rfl

/-- rosary/rosarybook.markLetters -/
def sf102 : SFunc := ⟨3, 27, (.seq (.reg [⟨(some 6), .p .move, [.lit .nilslice], none⟩])
  (.seq (.reg [⟨(some 7), .p .move, [.lit .nilslice], none⟩])
  (.seq (.seq (.reg [⟨(some 9), .p .move, [.tmp 1], none⟩,
    ⟨(some 8), .p .move, [.tmp 9], none⟩])
  (.block 0 (.loop [0, 1, 2, 7, 8] (.seq (.seq (.reg [⟨(some 10), .p .move, [.tmp 8], none⟩,
    ⟨(some 11), .p .move, [.tmp 1], none⟩,
    ⟨(some 12), .p .move, [.tmp 2], none⟩,
    ⟨(some 13), .p (.bin .add), [.tmp 11, .tmp 12], none⟩,
    ⟨(some 14), .p (.bin .lss), [.tmp 10, .tmp 13], none⟩])
  (.cond (.tmp 14) .skip
  (.exit 0)))
  (.seq (.block 1 (.reg [⟨(some 17), .p .move, [.tmp 7], none⟩,
    ⟨(some 18), .p .move, [.tmp 0], none⟩,
    ⟨(some 19), .p (.bin .mul), [.lit (.int .i64 (-1000)), .tmp 18], none⟩,
    ⟨(some 20), .p .move, [.tmp 8], none⟩,
    ⟨(some 21), .p (.bin .sub), [.tmp 19, .tmp 20], none⟩,
    ⟨(some 22), .p (.bin .sub), [.tmp 21, .lit (.int .i64 1)], none⟩,
    ⟨(some 23), .p (.build [(.int .i64 0), (.int .i64 0), (.int .i64 0), (.int .i64 0), (.int .i64 0), (.str []), (.str []), (.str []), (.int .i64 0), (.int .i64 0), (.str []), .nilslice, (.bool false), (.str []), (.int .i64 0), (.int .u64 0), (.int .u64 0), (.int .i64 0), .nilslice, (.int .i64 0), (.int .i64 0)] [(0, 1)]), [.tmp 22], none⟩,
    ⟨(some 24), .a (.buildSlice 21 1 [(.int .i64 0), (.int .i64 0), (.int .i64 0), (.int .i64 0), (.int .i64 0), (.str []), (.str []), (.str []), (.int .i64 0), (.int .i64 0), (.str []), .nilslice, (.bool false), (.str []), (.int .i64 0), (.int .u64 0), (.int .u64 0), (.int .i64 0), .nilslice, (.int .i64 0), (.int .i64 0)] [0]), [.tmp 23], none⟩,
    ⟨(some 25), .h (.append 21 false), [.tmp 17, .tmp 24], none⟩,
    ⟨(some 7), .p .move, [.tmp 25], none⟩]))
  (.reg [⟨(some 15), .p .move, [.tmp 8], none⟩,
    ⟨(some 16), .p (.bin .add), [.tmp 15, .lit (.int .i64 1)], none⟩,
    ⟨(some 8), .p .move, [.tmp 16], none⟩]))))))
  (.seq (.reg [⟨(some 26), .p .move, [.tmp 7], none⟩,
    ⟨(some 6), .p .move, [.tmp 26], none⟩])
  .ret)))), [.tmp 6]⟩
theorem c102 : cFunc Go.Proofs.Tryz.prog false 3 Go.Proofs.Tryz.f102 = some sf102 := by kernel_rfl

/-- rosary/rosarybook.markTexts -/
def sf103 : SFunc := ⟨3, 24, (.seq (.reg [⟨(some 6), .p .move, [.lit .nilslice], none⟩])
  (.seq (.reg [⟨(some 7), .p .move, [.lit .nilslice], none⟩])
  (.seq (.seq (.reg [⟨(some 9), .p .move, [.tmp 1], none⟩,
    ⟨(some 8), .p .move, [.tmp 9], none⟩])
  (.block 0 (.loop [0, 1, 2, 7, 8] (.seq (.seq (.reg [⟨(some 10), .p .move, [.tmp 8], none⟩,
    ⟨(some 11), .p .move, [.tmp 1], none⟩,
    ⟨(some 12), .p .move, [.tmp 2], none⟩,
    ⟨(some 13), .p (.bin .add), [.tmp 11, .tmp 12], none⟩,
    ⟨(some 14), .p (.bin .lss), [.tmp 10, .tmp 13], none⟩])
  (.cond (.tmp 14) .skip
  (.exit 0)))
  (.seq (.block 1 (.reg [⟨(some 17), .p .move, [.tmp 7], none⟩,
    ⟨(some 18), .p .move, [.tmp 0], none⟩,
    ⟨(some 19), .p .move, [.tmp 8], none⟩,
    ⟨(some 20), .h (.call 118), [.tmp 18, .tmp 19], none⟩,
    ⟨(some 21), .a (.buildSlice 1 1 [(.str [])] [0]), [.tmp 20], none⟩,
    ⟨(some 22), .h (.append 1 false), [.tmp 17, .tmp 21], none⟩,
    ⟨(some 7), .p .move, [.tmp 22], none⟩]))
  (.reg [⟨(some 15), .p .move, [.tmp 8], none⟩,
    ⟨(some 16), .p (.bin .add), [.tmp 15, .lit (.int .i64 1)], none⟩,
    ⟨(some 8), .p .move, [.tmp 16], none⟩]))))))
  (.seq (.reg [⟨(some 23), .p .move, [.tmp 7], none⟩,
    ⟨(some 6), .p .move, [.tmp 23], none⟩])
  .ret)))), [.tmp 6]⟩
theorem c103 : cFunc Go.Proofs.Tryz.prog false 3 Go.Proofs.Tryz.f103 = some sf103 := by kernel_rfl

/-- rosary/rosarybook.markInts -/
def sf104 : SFunc := ⟨3, 26, (.seq (.reg [⟨(some 6), .p .move, [.lit .nilslice], none⟩])
  (.seq (.reg [⟨(some 7), .p .move, [.lit .nilslice], none⟩])
  (.seq (.seq (.reg [⟨(some 9), .p .move, [.tmp 1], none⟩,
    ⟨(some 8), .p .move, [.tmp 9], none⟩])
  (.block 0 (.loop [0, 1, 2, 7, 8] (.seq (.seq (.reg [⟨(some 10), .p .move, [.tmp 8], none⟩,
    ⟨(some 11), .p .move, [.tmp 1], none⟩,
    ⟨(some 12), .p .move, [.tmp 2], none⟩,
    ⟨(some 13), .p (.bin .add), [.tmp 11, .tmp 12], none⟩,
    ⟨(some 14), .p (.bin .lss), [.tmp 10, .tmp 13], none⟩])
  (.cond (.tmp 14) .skip
  (.exit 0)))
  (.seq (.block 1 (.reg [⟨(some 17), .p .move, [.tmp 7], none⟩,
    ⟨(some 18), .p .move, [.tmp 0], none⟩,
    ⟨(some 19), .p (.bin .mul), [.lit (.int .i64 (-1000000)), .tmp 18], none⟩,
    ⟨(some 20), .p .move, [.tmp 8], none⟩,
    ⟨(some 21), .p (.bin .sub), [.tmp 19, .tmp 20], none⟩,
    ⟨(some 22), .p (.bin .sub), [.tmp 21, .lit (.int .i64 7)], none⟩,
    ⟨(some 23), .a (.buildSlice 1 1 [(.int .i64 0)] [0]), [.tmp 22], none⟩,
    ⟨(some 24), .h (.append 1 false), [.tmp 17, .tmp 23], none⟩,
    ⟨(some 7), .p .move, [.tmp 24], none⟩]))
  (.reg [⟨(some 15), .p .move, [.tmp 8], none⟩,
    ⟨(some 16), .p (.bin .add), [.tmp 15, .lit (.int .i64 1)], none⟩,
    ⟨(some 8), .p .move, [.tmp 16], none⟩]))))))
  (.seq (.reg [⟨(some 25), .p .move, [.tmp 7], none⟩,
    ⟨(some 6), .p .move, [.tmp 25], none⟩])
  .ret)))), [.tmp 6]⟩
theorem c104 : cFunc Go.Proofs.Tryz.prog false 3 Go.Proofs.Tryz.f104 = some sf104 := by kernel_rfl

/-- rosary/rosarybook.markPoints -/
def sf105 : SFunc := ⟨3, 27, (.seq (.reg [⟨(some 6), .p .move, [.lit .nilslice], none⟩])
  (.seq (.reg [⟨(some 7), .p .move, [.lit .nilslice], none⟩])
  (.seq (.seq (.reg [⟨(some 9), .p .move, [.tmp 1], none⟩,
    ⟨(some 8), .p .move, [.tmp 9], none⟩])
  (.block 0 (.loop [0, 1, 2, 7, 8] (.seq (.seq (.reg [⟨(some 10), .p .move, [.tmp 8], none⟩,
    ⟨(some 11), .p .move, [.tmp 1], none⟩,
    ⟨(some 12), .p .move, [.tmp 2], none⟩,
    ⟨(some 13), .p (.bin .add), [.tmp 11, .tmp 12], none⟩,
    ⟨(some 14), .p (.bin .lss), [.tmp 10, .tmp 13], none⟩])
  (.cond (.tmp 14) .skip
  (.exit 0)))
  (.seq (.block 1 (.reg [⟨(some 17), .p .move, [.tmp 7], none⟩,
    ⟨(some 18), .p .move, [.tmp 0], none⟩,
    ⟨(some 19), .p (.bin .mul), [.lit (.int .i64 1000000), .tmp 18], none⟩,
    ⟨(some 20), .p .move, [.tmp 8], none⟩,
    ⟨(some 21), .p (.bin .add), [.tmp 19, .tmp 20], none⟩,
    ⟨(some 22), .p (.bin .add), [.tmp 21, .lit (.int .i64 7)], none⟩,
    ⟨(some 23), .p (.convInt .u64), [.tmp 22], none⟩,
    ⟨(some 24), .a (.buildSlice 1 1 [(.int .u64 0)] [0]), [.tmp 23], none⟩,
    ⟨(some 25), .h (.append 1 false), [.tmp 17, .tmp 24], none⟩,
    ⟨(some 7), .p .move, [.tmp 25], none⟩]))
  (.reg [⟨(some 15), .p .move, [.tmp 8], none⟩,
    ⟨(some 16), .p (.bin .add), [.tmp 15, .lit (.int .i64 1)], none⟩,
    ⟨(some 8), .p .move, [.tmp 16], none⟩]))))))
  (.seq (.reg [⟨(some 26), .p .move, [.tmp 7], none⟩,
    ⟨(some 6), .p .move, [.tmp 26], none⟩])
  .ret)))), [.tmp 6]⟩
theorem c105 : cFunc Go.Proofs.Tryz.prog false 3 Go.Proofs.Tryz.f105 = some sf105 := by kernel_rfl

/-- rosary/rosarybook.markItems -/
def sf106 : SFunc := ⟨3, 25, (.seq (.reg [⟨(some 6), .p .move, [.lit .nilslice], none⟩])
  (.seq (.reg [⟨(some 7), .p .move, [.lit .nilslice], none⟩])
  (.seq (.seq (.reg [⟨(some 9), .p .move, [.tmp 1], none⟩,
    ⟨(some 8), .p .move, [.tmp 9], none⟩])
  (.block 0 (.loop [0, 1, 2, 7, 8] (.seq (.seq (.reg [⟨(some 10), .p .move, [.tmp 8], none⟩,
    ⟨(some 11), .p .move, [.tmp 1], none⟩,
    ⟨(some 12), .p .move, [.tmp 2], none⟩,
    ⟨(some 13), .p (.bin .add), [.tmp 11, .tmp 12], none⟩,
    ⟨(some 14), .p (.bin .lss), [.tmp 10, .tmp 13], none⟩])
  (.cond (.tmp 14) .skip
  (.exit 0)))
  (.seq (.block 1 (.reg [⟨(some 17), .p .move, [.tmp 7], none⟩,
    ⟨(some 18), .p .move, [.tmp 0], none⟩,
    ⟨(some 19), .p .move, [.tmp 8], none⟩,
    ⟨(some 20), .h (.call 118), [.tmp 18, .tmp 19], none⟩,
    ⟨(some 21), .p (.build [(.str []), (.str [])] [(0, 1)]), [.tmp 20], none⟩,
    ⟨(some 22), .a (.buildSlice 2 1 [(.str []), (.str [])] [0]), [.tmp 21], none⟩,
    ⟨(some 23), .h (.append 2 false), [.tmp 17, .tmp 22], none⟩,
    ⟨(some 7), .p .move, [.tmp 23], none⟩]))
  (.reg [⟨(some 15), .p .move, [.tmp 8], none⟩,
    ⟨(some 16), .p (.bin .add), [.tmp 15, .lit (.int .i64 1)], none⟩,
    ⟨(some 8), .p .move, [.tmp 16], none⟩]))))))
  (.seq (.reg [⟨(some 24), .p .move, [.tmp 7], none⟩,
    ⟨(some 6), .p .move, [.tmp 24], none⟩])
  .ret)))), [.tmp 6]⟩
theorem c106 : cFunc Go.Proofs.Tryz.prog false 3 Go.Proofs.Tryz.f106 = some sf106 := by kernel_rfl

/-- rosary/rosarybook.markOwneds -/
def sf107 : SFunc := ⟨3, 27, (.seq (.reg [⟨(some 6), .p .move, [.lit .nilslice], none⟩])
  (.seq (.reg [⟨(some 7), .p .move, [.lit .nilslice], none⟩])
  (.seq (.seq (.reg [⟨(some 9), .p .move, [.tmp 1], none⟩,
    ⟨(some 8), .p .move, [.tmp 9], none⟩])
  (.block 0 (.loop [0, 1, 2, 7, 8] (.seq (.seq (.reg [⟨(some 10), .p .move, [.tmp 8], none⟩,
    ⟨(some 11), .p .move, [.tmp 1], none⟩,
    ⟨(some 12), .p .move, [.tmp 2], none⟩,
    ⟨(some 13), .p (.bin .add), [.tmp 11, .tmp 12], none⟩,
    ⟨(some 14), .p (.bin .lss), [.tmp 10, .tmp 13], none⟩])
  (.cond (.tmp 14) .skip
  (.exit 0)))
  (.seq (.block 1 (.reg [⟨(some 17), .p .move, [.tmp 7], none⟩,
    ⟨(some 18), .p .move, [.tmp 0], none⟩,
    ⟨(some 19), .p (.bin .mul), [.lit (.int .i64 (-1000)), .tmp 18], none⟩,
    ⟨(some 20), .p .move, [.tmp 8], none⟩,
    ⟨(some 21), .p (.bin .sub), [.tmp 19, .tmp 20], none⟩,
    ⟨(some 22), .p (.bin .sub), [.tmp 21, .lit (.int .i64 1)], none⟩,
    ⟨(some 23), .p (.build [(.int .u64 0), (.int .u64 0), (.int .i64 0), (.int .i64 0)] [(2, 1)]), [.tmp 22], none⟩,
    ⟨(some 24), .a (.buildSlice 4 1 [(.int .u64 0), (.int .u64 0), (.int .i64 0), (.int .i64 0)] [0]), [.tmp 23], none⟩,
    ⟨(some 25), .h (.append 4 false), [.tmp 17, .tmp 24], none⟩,
    ⟨(some 7), .p .move, [.tmp 25], none⟩]))
  (.reg [⟨(some 15), .p .move, [.tmp 8], none⟩,
    ⟨(some 16), .p (.bin .add), [.tmp 15, .lit (.int .i64 1)], none⟩,
    ⟨(some 8), .p .move, [.tmp 16], none⟩]))))))
  (.seq (.reg [⟨(some 26), .p .move, [.tmp 7], none⟩,
    ⟨(some 6), .p .move, [.tmp 26], none⟩])
  .ret)))), [.tmp 6]⟩
theorem c107 : cFunc Go.Proofs.Tryz.prog false 3 Go.Proofs.Tryz.f107 = some sf107 := by kernel_rfl

/-- slices.IndexFunc[[]int,int] -/
def sf109 : SFunc := ⟨2, 19, (.seq (.reg [⟨(some 4), .p .move, [.lit (.int .i64 0)], none⟩])
  (.seq (.seq (.reg [⟨(some 6), .p .move, [.tmp 0], none⟩,
    ⟨(some 7), .p .lenSl, [.tmp 6], none⟩,
    ⟨(some 8), .p .move, [.lit (.int .i64 0)], none⟩])
  (.block 0 (.loop [0, 1, 7, 8] (.seq (.reg [⟨(some 9), .p (.bin .lss), [.tmp 8, .tmp 7], none⟩])
  (.seq (.cond (.tmp 9) .skip
  (.exit 0))
  (.seq (.block 1 (.seq (.reg [⟨(some 10), .p .move, [.tmp 8], none⟩,
    ⟨(some 5), .p .move, [.tmp 10], none⟩])
  (.seq (.reg [⟨(some 11), .p .move, [.tmp 1], none⟩,
    ⟨(some 12), .p .move, [.tmp 0], none⟩,
    ⟨(some 13), .p .move, [.tmp 5], none⟩,
    ⟨(some 14), .p (.indexAddr 1), [.tmp 12, .tmp 13], none⟩,
    ⟨(some 15), .r (.load none), [.tmp 14], none⟩,
    ⟨(some 16), .h .callV, [.tmp 11, .tmp 15], none⟩])
  (.cond (.tmp 16) (.seq (.reg [⟨(some 17), .p .move, [.tmp 5], none⟩,
    ⟨(some 4), .p .move, [.tmp 17], none⟩])
  .ret)
  .skip))))
  (.reg [⟨(some 18), .p (.bin .add), [.tmp 8, .lit (.int .i64 1)], none⟩,
    ⟨(some 8), .p .move, [.tmp 18], none⟩])))))))
  (.seq (.reg [⟨(some 4), .p .move, [.lit (.int .i64 (-1))], none⟩])
  .ret))), [.tmp 4]⟩
theorem c109 : cFunc Go.Proofs.Tryz.prog false 2 Go.Proofs.Tryz.f109 = some sf109 := by kernel_rfl

/-- slices.IndexFunc[[]string,string] -/
def sf110 : SFunc := ⟨2, 19, (.seq (.reg [⟨(some 4), .p .move, [.lit (.int .i64 0)], none⟩])
  (.seq (.seq (.reg [⟨(some 6), .p .move, [.tmp 0], none⟩,
    ⟨(some 7), .p .lenSl, [.tmp 6], none⟩,
    ⟨(some 8), .p .move, [.lit (.int .i64 0)], none⟩])
  (.block 0 (.loop [0, 1, 7, 8] (.seq (.reg [⟨(some 9), .p (.bin .lss), [.tmp 8, .tmp 7], none⟩])
  (.seq (.cond (.tmp 9) .skip
  (.exit 0))
  (.seq (.block 1 (.seq (.reg [⟨(some 10), .p .move, [.tmp 8], none⟩,
    ⟨(some 5), .p .move, [.tmp 10], none⟩])
  (.seq (.reg [⟨(some 11), .p .move, [.tmp 1], none⟩,
    ⟨(some 12), .p .move, [.tmp 0], none⟩,
    ⟨(some 13), .p .move, [.tmp 5], none⟩,
    ⟨(some 14), .p (.indexAddr 1), [.tmp 12, .tmp 13], none⟩,
    ⟨(some 15), .r (.load none), [.tmp 14], none⟩,
    ⟨(some 16), .h .callV, [.tmp 11, .tmp 15], none⟩])
  (.cond (.tmp 16) (.seq (.reg [⟨(some 17), .p .move, [.tmp 5], none⟩,
    ⟨(some 4), .p .move, [.tmp 17], none⟩])
  .ret)
  .skip))))
  (.reg [⟨(some 18), .p (.bin .add), [.tmp 8, .lit (.int .i64 1)], none⟩,
    ⟨(some 8), .p .move, [.tmp 18], none⟩])))))))
  (.seq (.reg [⟨(some 4), .p .move, [.lit (.int .i64 (-1))], none⟩])
  .ret))), [.tmp 4]⟩
theorem c110 : cFunc Go.Proofs.Tryz.prog false 2 Go.Proofs.Tryz.f110 = some sf110 := by kernel_rfl

/-- slices.IndexFunc[[]rosary/api.Item,rosary/api.Item] -/
def sf111 : SFunc := ⟨2, 19, (.seq (.reg [⟨(some 4), .p .move, [.lit (.int .i64 0)], none⟩])
  (.seq (.seq (.reg [⟨(some 6), .p .move, [.tmp 0], none⟩,
    ⟨(some 7), .p .lenSl, [.tmp 6], none⟩,
    ⟨(some 8), .p .move, [.lit (.int .i64 0)], none⟩])
  (.block 0 (.loop [0, 1, 7, 8] (.seq (.reg [⟨(some 9), .p (.bin .lss), [.tmp 8, .tmp 7], none⟩])
  (.seq (.cond (.tmp 9) .skip
  (.exit 0))
  (.seq (.block 1 (.seq (.reg [⟨(some 10), .p .move, [.tmp 8], none⟩,
    ⟨(some 5), .p .move, [.tmp 10], none⟩])
  (.seq (.reg [⟨(some 11), .p .move, [.tmp 1], none⟩,
    ⟨(some 12), .p .move, [.tmp 0], none⟩,
    ⟨(some 13), .p .move, [.tmp 5], none⟩,
    ⟨(some 14), .p (.indexAddr 2), [.tmp 12, .tmp 13], none⟩,
    ⟨(some 15), .r (.load (some 2)), [.tmp 14], none⟩,
    ⟨(some 16), .h .callV, [.tmp 11, .tmp 15], none⟩])
  (.cond (.tmp 16) (.seq (.reg [⟨(some 17), .p .move, [.tmp 5], none⟩,
    ⟨(some 4), .p .move, [.tmp 17], none⟩])
  .ret)
  .skip))))
  (.reg [⟨(some 18), .p (.bin .add), [.tmp 8, .lit (.int .i64 1)], none⟩,
    ⟨(some 8), .p .move, [.tmp 18], none⟩])))))))
  (.seq (.reg [⟨(some 4), .p .move, [.lit (.int .i64 (-1))], none⟩])
  .ret))), [.tmp 4]⟩
theorem c111 : cFunc Go.Proofs.Tryz.prog false 2 Go.Proofs.Tryz.f111 = some sf111 := by kernel_rfl

/-- (*rosary/pack.Reader).number -/
def sf112 : SFunc := ⟨2, 25, (.seq (.reg [⟨(some 4), .p .move, [.lit (.int .u64 0)], none⟩])
  (.scope (.seq (.reg [⟨(some 5), .p .move, [.lit (.int .u64 0)], none⟩])
  (.seq (.reg [⟨(some 8), .p .move, [.tmp 0], none⟩,
    ⟨(some 9), .p .move, [.tmp 1], none⟩,
    ⟨(some 10), .h (.call 113), [.tmp 8, .tmp 9], none⟩,
    ⟨(some 6), .p .move, [.tmp 10], none⟩])
  (.seq .skip
  (.seq (.seq (.reg [⟨(some 7), .p .move, [.lit (.int .i64 0)], none⟩])
  (.block 0 (.loop [5, 6, 7] (.seq (.block 1 (.seq (.seq (.reg [⟨(some 13), .p .move, [.tmp 7], none⟩,
    ⟨(some 14), .p .move, [.tmp 6], none⟩,
    ⟨(some 15), .p .lenStr, [.tmp 14], none⟩,
    ⟨(some 16), .p (.bin .geq), [.tmp 13, .tmp 15], none⟩])
  (.cond (.tmp 16) (.exit 0)
  .skip))
  (.reg [⟨(some 17), .p .move, [.tmp 5], none⟩,
    ⟨(some 18), .p (.bin .shl), [.tmp 17, .lit (.int .u64 8)], none⟩,
    ⟨(some 19), .p .move, [.tmp 6], none⟩,
    ⟨(some 20), .p .move, [.tmp 7], none⟩,
    ⟨(some 21), .p .indexStr, [.tmp 19, .tmp 20], none⟩,
    ⟨(some 22), .p (.convInt .u64), [.tmp 21], none⟩,
    ⟨(some 23), .p (.bin .or), [.tmp 18, .tmp 22], none⟩,
    ⟨(some 5), .p .move, [.tmp 23], none⟩])))
  (.reg [⟨(some 11), .p .move, [.tmp 7], none⟩,
    ⟨(some 12), .p (.bin .add), [.tmp 11, .lit (.int .i64 1)], none⟩,
    ⟨(some 7), .p .move, [.tmp 12], none⟩])))))
  (.seq (.reg [⟨(some 24), .p .move, [.tmp 5], none⟩,
    ⟨(some 4), .p .move, [.tmp 24], none⟩])
  .ret))))))), [.tmp 4]⟩
theorem c112 : cFunc Go.Proofs.Tryz.prog false 2 Go.Proofs.Tryz.f112 = some sf112 := by kernel_rfl

/-- (*rosary/pack.Reader).take -/
def sf113 : SFunc := ⟨2, 41, (.seq (.reg [⟨(some 4), .p .move, [.lit (.str [])], none⟩])
  (.seq (.seq (.reg [⟨(some 6), .p .move, [.tmp 0], none⟩,
    ⟨(some 7), .p (.eq false .ptr), [.tmp 6, .lit .nilptr], none⟩,
    ⟨(some 8), .p .move, [.tmp 7], none⟩,
    ⟨(some 9), .p .move, [.tmp 0], some (8, false)⟩,
    ⟨(some 10), .p .nilCheck, [.tmp 9], some (8, false)⟩,
    ⟨(some 11), .p (.fieldAddr 1), [.tmp 10], some (8, false)⟩,
    ⟨(some 12), .r (.load none), [.tmp 11], some (8, false)⟩,
    ⟨(some 13), .p .pick, [.tmp 8, .lit (.bool true), .tmp 12], none⟩])
  (.cond (.tmp 13) (.seq (.reg [⟨(some 4), .p .move, [.lit (.str [])], none⟩])
  .ret)
  .skip))
  (.seq (.seq (.reg [⟨(some 14), .p .move, [.tmp 1], none⟩,
    ⟨(some 15), .p .move, [.tmp 0], none⟩,
    ⟨(some 16), .p .nilCheck, [.tmp 15], none⟩,
    ⟨(some 17), .p (.fieldAddr 0), [.tmp 16], none⟩,
    ⟨(some 18), .r (.load none), [.tmp 17], none⟩,
    ⟨(some 19), .p .lenStr, [.tmp 18], none⟩,
    ⟨(some 20), .p (.bin .gtr), [.tmp 14, .tmp 19], none⟩])
  (.cond (.tmp 20) (.seq (.reg [⟨(some 21), .p .move, [.tmp 0], none⟩,
    ⟨(some 22), .p .nilCheck, [.tmp 21], none⟩,
    ⟨(some 23), .p (.fieldAddr 1), [.tmp 22], none⟩,
    ⟨none, .h (.store 1), [.tmp 23, .lit (.bool true)], none⟩])
  (.seq (.reg [⟨(some 4), .p .move, [.lit (.str [])], none⟩])
  .ret))
  .skip))
  (.seq (.reg [⟨(some 24), .p .move, [.tmp 0], none⟩,
    ⟨(some 25), .p .nilCheck, [.tmp 24], none⟩,
    ⟨(some 26), .p (.fieldAddr 0), [.tmp 25], none⟩,
    ⟨(some 27), .r (.load none), [.tmp 26], none⟩,
    ⟨(some 28), .p .move, [.tmp 1], none⟩,
    ⟨(some 29), .p (.sliceStr false true), [.tmp 27, .tmp 28], none⟩,
    ⟨(some 5), .p .move, [.tmp 29], none⟩])
  (.seq (.reg [⟨(some 30), .p .move, [.tmp 0], none⟩,
    ⟨(some 31), .p .move, [.tmp 0], none⟩,
    ⟨(some 32), .p .nilCheck, [.tmp 31], none⟩,
    ⟨(some 33), .p (.fieldAddr 0), [.tmp 32], none⟩,
    ⟨(some 34), .r (.load none), [.tmp 33], none⟩,
    ⟨(some 35), .p .move, [.tmp 1], none⟩,
    ⟨(some 36), .p (.sliceStr true false), [.tmp 34, .tmp 35], none⟩,
    ⟨(some 37), .p .nilCheck, [.tmp 30], none⟩,
    ⟨(some 38), .p (.fieldAddr 0), [.tmp 37], none⟩,
    ⟨none, .h (.store 1), [.tmp 38, .tmp 36], none⟩])
  (.seq (.reg [⟨(some 39), .p .move, [.tmp 5], none⟩,
    ⟨(some 40), .h (.call 119), [.tmp 39], none⟩,
    ⟨(some 4), .p .move, [.tmp 40], none⟩])
  .ret)))))), [.tmp 4]⟩
theorem c113 : cFunc Go.Proofs.Tryz.prog false 2 Go.Proofs.Tryz.f113 = some sf113 := by kernel_rfl

/-- (*rosary/rosaryref1.Reader).take -/
def sf114 : SFunc := ⟨2, 41, (.seq (.reg [⟨(some 4), .p .move, [.lit (.str [])], none⟩])
  (.seq (.seq (.reg [⟨(some 6), .p .move, [.tmp 0], none⟩,
    ⟨(some 7), .p .nilCheck, [.tmp 6], none⟩,
    ⟨(some 8), .p (.fieldAddr 1), [.tmp 7], none⟩,
    ⟨(some 9), .r (.load none), [.tmp 8], none⟩,
    ⟨(some 10), .p .move, [.tmp 9], none⟩,
    ⟨(some 11), .p .move, [.tmp 0], some (10, false)⟩,
    ⟨(some 12), .p .nilCheck, [.tmp 11], some (10, false)⟩,
    ⟨(some 13), .p (.fieldAddr 0), [.tmp 12], some (10, false)⟩,
    ⟨(some 14), .r (.load none), [.tmp 13], some (10, false)⟩,
    ⟨(some 15), .p .lenStr, [.tmp 14], some (10, false)⟩,
    ⟨(some 16), .p .move, [.tmp 1], some (10, false)⟩,
    ⟨(some 17), .p (.bin .lss), [.tmp 15, .tmp 16], some (10, false)⟩,
    ⟨(some 18), .p .pick, [.tmp 10, .lit (.bool true), .tmp 17], none⟩])
  (.cond (.tmp 18) (.seq (.reg [⟨(some 19), .p .move, [.tmp 0], none⟩,
    ⟨(some 20), .p .nilCheck, [.tmp 19], none⟩,
    ⟨(some 21), .p (.fieldAddr 1), [.tmp 20], none⟩,
    ⟨none, .h (.store 1), [.tmp 21, .lit (.bool true)], none⟩])
  (.seq (.reg [⟨(some 22), .p .move, [.tmp 1], none⟩,
    ⟨(some 23), .a (.makeSlice [(.int .u8 0)]), [.tmp 22, .tmp 22], none⟩,
    ⟨(some 24), .r .toStr, [.tmp 23], none⟩,
    ⟨(some 4), .p .move, [.tmp 24], none⟩])
  .ret))
  .skip))
  (.seq (.reg [⟨(some 25), .p .move, [.tmp 0], none⟩,
    ⟨(some 26), .p .nilCheck, [.tmp 25], none⟩,
    ⟨(some 27), .p (.fieldAddr 0), [.tmp 26], none⟩,
    ⟨(some 28), .r (.load none), [.tmp 27], none⟩,
    ⟨(some 29), .p .move, [.tmp 1], none⟩,
    ⟨(some 30), .p (.sliceStr false true), [.tmp 28, .tmp 29], none⟩,
    ⟨(some 5), .p .move, [.tmp 30], none⟩])
  (.seq (.reg [⟨(some 31), .p .move, [.tmp 0], none⟩,
    ⟨(some 32), .p .move, [.tmp 0], none⟩,
    ⟨(some 33), .p .nilCheck, [.tmp 32], none⟩,
    ⟨(some 34), .p (.fieldAddr 0), [.tmp 33], none⟩,
    ⟨(some 35), .r (.load none), [.tmp 34], none⟩,
    ⟨(some 36), .p .move, [.tmp 1], none⟩,
    ⟨(some 37), .p (.sliceStr true false), [.tmp 35, .tmp 36], none⟩,
    ⟨(some 38), .p .nilCheck, [.tmp 31], none⟩,
    ⟨(some 39), .p (.fieldAddr 0), [.tmp 38], none⟩,
    ⟨none, .h (.store 1), [.tmp 39, .tmp 37], none⟩])
  (.seq (.reg [⟨(some 40), .p .move, [.tmp 5], none⟩,
    ⟨(some 4), .p .move, [.tmp 40], none⟩])
  .ret))))), [.tmp 4]⟩
theorem c114 : cFunc Go.Proofs.Tryz.prog false 2 Go.Proofs.Tryz.f114 = some sf114 := by kernel_rfl

/-- rosary/rosaryref1.Addr -/
def sf115 : SFunc := ⟨1, 22, (.seq (.reg [⟨(some 2), .p .move, [.lit (.int .u64 0)], none⟩])
  (.seq (.reg [⟨(some 3), .p .move, [.lit (.int .u64 0)], none⟩])
  (.seq (.seq (.reg [⟨(some 4), .p .move, [.lit (.int .i64 0)], none⟩])
  (.block 0 (.loop [0, 3, 4] (.seq (.seq (.reg [⟨(some 5), .p .move, [.tmp 4], none⟩,
    ⟨(some 6), .p (.bin .lss), [.tmp 5, .lit (.int .i64 8)], none⟩])
  (.cond (.tmp 6) .skip
  (.exit 0)))
  (.seq (.block 1 (.seq (.reg [⟨(some 9), .p .move, [.tmp 3], none⟩,
    ⟨(some 10), .p (.bin .mul), [.tmp 9, .lit (.int .u64 256)], none⟩,
    ⟨(some 3), .p .move, [.tmp 10], none⟩])
  (.seq (.reg [⟨(some 11), .p .move, [.tmp 4], none⟩,
    ⟨(some 12), .p .move, [.tmp 0], none⟩,
    ⟨(some 13), .p .lenStr, [.tmp 12], none⟩,
    ⟨(some 14), .p (.bin .lss), [.tmp 11, .tmp 13], none⟩])
  (.cond (.tmp 14) (.reg [⟨(some 15), .p .move, [.tmp 3], none⟩,
    ⟨(some 16), .p .move, [.tmp 0], none⟩,
    ⟨(some 17), .p .move, [.tmp 4], none⟩,
    ⟨(some 18), .p .indexStr, [.tmp 16, .tmp 17], none⟩,
    ⟨(some 19), .p (.convInt .u64), [.tmp 18], none⟩,
    ⟨(some 20), .p (.bin .add), [.tmp 15, .tmp 19], none⟩,
    ⟨(some 3), .p .move, [.tmp 20], none⟩])
  .skip))))
  (.reg [⟨(some 7), .p .move, [.tmp 4], none⟩,
    ⟨(some 8), .p (.bin .add), [.tmp 7, .lit (.int .i64 1)], none⟩,
    ⟨(some 4), .p .move, [.tmp 8], none⟩]))))))
  (.seq (.reg [⟨(some 21), .p .move, [.tmp 3], none⟩,
    ⟨(some 2), .p .move, [.tmp 21], none⟩])
  .ret)))), [.tmp 2]⟩
theorem c115 : cFunc Go.Proofs.Tryz.prog false 1 Go.Proofs.Tryz.f115 = some sf115 := by kernel_rfl

/-- unicode.isExcludingLatin -/
def sf116 : SFunc := ⟨2, 59, (.seq (.reg [⟨(some 4), .p .move, [.lit (.bool false)], none⟩])
  (.seq (.reg [⟨(some 8), .p .move, [.tmp 0], none⟩,
    ⟨(some 9), .p .nilCheck, [.tmp 8], none⟩,
    ⟨(some 10), .p (.fieldAddr 0), [.tmp 9], none⟩,
    ⟨(some 11), .r (.load none), [.tmp 10], none⟩,
    ⟨(some 5), .p .move, [.tmp 11], none⟩])
  (.seq (.seq (.reg [⟨(some 12), .p .move, [.tmp 0], none⟩,
    ⟨(some 13), .p .nilCheck, [.tmp 12], none⟩,
    ⟨(some 14), .p (.fieldAddr 2), [.tmp 13], none⟩,
    ⟨(some 15), .r (.load none), [.tmp 14], none⟩,
    ⟨(some 6), .p .move, [.tmp 15], none⟩])
  (.seq (.reg [⟨(some 16), .p .move, [.tmp 5], none⟩,
    ⟨(some 17), .p .lenSl, [.tmp 16], none⟩,
    ⟨(some 18), .p .move, [.tmp 6], none⟩,
    ⟨(some 19), .p (.bin .gtr), [.tmp 17, .tmp 18], none⟩,
    ⟨(some 20), .p .move, [.tmp 19], none⟩,
    ⟨(some 21), .p .move, [.tmp 1], some (20, true)⟩,
    ⟨(some 22), .p (.convInt .u32), [.tmp 21], some (20, true)⟩,
    ⟨(some 23), .p .move, [.tmp 5], some (20, true)⟩,
    ⟨(some 24), .p .move, [.tmp 5], some (20, true)⟩,
    ⟨(some 25), .p .lenSl, [.tmp 24], some (20, true)⟩,
    ⟨(some 26), .p (.bin .sub), [.tmp 25, .lit (.int .i64 1)], some (20, true)⟩,
    ⟨(some 27), .p (.indexAddr 3), [.tmp 23, .tmp 26], some (20, true)⟩,
    ⟨(some 28), .p (.fieldAddr 1), [.tmp 27], some (20, true)⟩,
    ⟨(some 29), .r (.load none), [.tmp 28], some (20, true)⟩,
    ⟨(some 30), .p (.convInt .u32), [.tmp 29], some (20, true)⟩,
    ⟨(some 31), .p (.bin .leq), [.tmp 22, .tmp 30], some (20, true)⟩,
    ⟨(some 32), .p .pick, [.tmp 20, .tmp 31, .lit (.bool false)], none⟩])
  (.cond (.tmp 32) (.seq (.reg [⟨(some 33), .p .move, [.tmp 5], none⟩,
    ⟨(some 34), .p .move, [.tmp 6], none⟩,
    ⟨(some 35), .p (.sliceSl 3 true false false), [.tmp 33, .tmp 34], none⟩,
    ⟨(some 36), .p .move, [.tmp 1], none⟩,
    ⟨(some 37), .p (.convInt .u16), [.tmp 36], none⟩,
    ⟨(some 38), .h (.call 120), [.tmp 35, .tmp 37], none⟩,
    ⟨(some 4), .p .move, [.tmp 38], none⟩])
  .ret)
  .skip)))
  (.seq (.reg [⟨(some 39), .p .move, [.tmp 0], none⟩,
    ⟨(some 40), .p .nilCheck, [.tmp 39], none⟩,
    ⟨(some 41), .p (.fieldAddr 1), [.tmp 40], none⟩,
    ⟨(some 42), .r (.load none), [.tmp 41], none⟩,
    ⟨(some 7), .p .move, [.tmp 42], none⟩])
  (.seq (.seq (.reg [⟨(some 43), .p .move, [.tmp 7], none⟩,
    ⟨(some 44), .p .lenSl, [.tmp 43], none⟩,
    ⟨(some 45), .p (.bin .gtr), [.tmp 44, .lit (.int .i64 0)], none⟩,
    ⟨(some 46), .p .move, [.tmp 45], none⟩,
    ⟨(some 47), .p .move, [.tmp 1], some (46, true)⟩,
    ⟨(some 48), .p .move, [.tmp 7], some (46, true)⟩,
    ⟨(some 49), .p (.indexAddr 3), [.tmp 48, .lit (.int .i64 0)], some (46, true)⟩,
    ⟨(some 50), .p (.fieldAddr 0), [.tmp 49], some (46, true)⟩,
    ⟨(some 51), .r (.load none), [.tmp 50], some (46, true)⟩,
    ⟨(some 52), .p (.convInt .i32), [.tmp 51], some (46, true)⟩,
    ⟨(some 53), .p (.bin .geq), [.tmp 47, .tmp 52], some (46, true)⟩,
    ⟨(some 54), .p .pick, [.tmp 46, .tmp 53, .lit (.bool false)], none⟩])
  (.cond (.tmp 54) (.seq (.reg [⟨(some 55), .p .move, [.tmp 7], none⟩,
    ⟨(some 56), .p .move, [.tmp 1], none⟩,
    ⟨(some 57), .p (.convInt .u32), [.tmp 56], none⟩,
    ⟨(some 58), .h (.call 121), [.tmp 55, .tmp 57], none⟩,
    ⟨(some 4), .p .move, [.tmp 58], none⟩])
  .ret)
  .skip))
  (.seq (.reg [⟨(some 4), .p .move, [.lit (.bool false)], none⟩])
  .ret)))))), [.tmp 4]⟩
theorem c116 : cFunc Go.Proofs.Tryz.prog false 2 Go.Proofs.Tryz.f116 = some sf116 := by kernel_rfl

/-- rosary/rosarybook.SameEvent -/
def sf117 : SFunc := ⟨2, 45, (.seq (.reg [⟨(some 2), .a .box, [.tmp 0], none⟩,
    ⟨(some 3), .a .box, [.tmp 1], none⟩,
    ⟨(some 4), .p .move, [.lit (.bool false)], none⟩])
  (.seq (.reg [⟨(some 5), .p (.fieldAddr 0), [.tmp 2], none⟩,
    ⟨(some 6), .r (.load none), [.tmp 5], none⟩,
    ⟨(some 7), .p (.fieldAddr 0), [.tmp 3], none⟩,
    ⟨(some 8), .r (.load none), [.tmp 7], none⟩,
    ⟨(some 9), .p (.bin .eql), [.tmp 6, .tmp 8], none⟩,
    ⟨(some 10), .p .move, [.tmp 9], none⟩,
    ⟨(some 11), .p (.fieldAddr 1), [.tmp 2], some (10, true)⟩,
    ⟨(some 12), .r (.load none), [.tmp 11], some (10, true)⟩,
    ⟨(some 13), .p (.fieldAddr 1), [.tmp 3], some (10, true)⟩,
    ⟨(some 14), .r (.load none), [.tmp 13], some (10, true)⟩,
    ⟨(some 15), .p (.bin .eql), [.tmp 12, .tmp 14], some (10, true)⟩,
    ⟨(some 16), .p .pick, [.tmp 10, .tmp 15, .lit (.bool false)], none⟩,
    ⟨(some 17), .p .move, [.tmp 16], none⟩,
    ⟨(some 18), .p (.fieldAddr 2), [.tmp 2], some (17, true)⟩,
    ⟨(some 19), .r (.load none), [.tmp 18], some (17, true)⟩,
    ⟨(some 20), .p (.fieldAddr 2), [.tmp 3], some (17, true)⟩,
    ⟨(some 21), .r (.load none), [.tmp 20], some (17, true)⟩,
    ⟨(some 22), .p (.bin .eql), [.tmp 19, .tmp 21], some (17, true)⟩,
    ⟨(some 23), .p .pick, [.tmp 17, .tmp 22, .lit (.bool false)], none⟩,
    ⟨(some 24), .p .move, [.tmp 23], none⟩,
    ⟨(some 25), .p (.fieldAddr 3), [.tmp 2], some (24, true)⟩,
    ⟨(some 26), .r (.load none), [.tmp 25], some (24, true)⟩,
    ⟨(some 27), .p (.fieldAddr 3), [.tmp 3], some (24, true)⟩,
    ⟨(some 28), .r (.load none), [.tmp 27], some (24, true)⟩,
    ⟨(some 29), .p (.bin .eql), [.tmp 26, .tmp 28], some (24, true)⟩,
    ⟨(some 30), .p .pick, [.tmp 24, .tmp 29, .lit (.bool false)], none⟩,
    ⟨(some 31), .p .move, [.tmp 30], none⟩,
    ⟨(some 32), .p (.fieldAddr 4), [.tmp 2], some (31, true)⟩,
    ⟨(some 33), .r (.load (some 5)), [.tmp 32], some (31, true)⟩,
    ⟨(some 34), .p (.fieldAddr 4), [.tmp 3], some (31, true)⟩,
    ⟨(some 35), .r (.load (some 5)), [.tmp 34], some (31, true)⟩,
    ⟨(some 36), .p (.eq false (.agg [.int, .str, .str, .str, .int])), [.tmp 33, .tmp 35], some (31, true)⟩,
    ⟨(some 37), .p .pick, [.tmp 31, .tmp 36, .lit (.bool false)], none⟩,
    ⟨(some 38), .p .move, [.tmp 37], none⟩,
    ⟨(some 39), .p (.fieldAddr 9), [.tmp 2], some (38, true)⟩,
    ⟨(some 40), .r (.load (some 6)), [.tmp 39], some (38, true)⟩,
    ⟨(some 41), .p (.fieldAddr 9), [.tmp 3], some (38, true)⟩,
    ⟨(some 42), .r (.load (some 6)), [.tmp 41], some (38, true)⟩,
    ⟨(some 43), .h (.call 42), [.tmp 40, .tmp 42], some (38, true)⟩,
    ⟨(some 44), .p .pick, [.tmp 38, .tmp 43, .lit (.bool false)], none⟩,
    ⟨(some 4), .p .move, [.tmp 44], none⟩])
  .ret)), [.tmp 4]⟩
theorem c117 : cFunc Go.Proofs.Tryz.prog false 2 Go.Proofs.Tryz.f117 = some sf117 := by kernel_rfl

/-- rosary/rosarybook.name -/
def sf118 : SFunc := ⟨2, 30, (.seq (.reg [⟨(some 4), .p .move, [.lit (.str [])], none⟩])
  (.seq (.reg [⟨(some 5), .p .move, [.tmp 0], none⟩,
    ⟨(some 6), .p (.bin .rem), [.tmp 5, .lit (.int .i64 26)], none⟩,
    ⟨(some 7), .p (.bin .add), [.lit (.int .i64 65), .tmp 6], none⟩,
    ⟨(some 8), .p (.convInt .u8), [.tmp 7], none⟩,
    ⟨(some 9), .p .move, [.tmp 0], none⟩,
    ⟨(some 10), .p (.bin .quo), [.tmp 9, .lit (.int .i64 26)], none⟩,
    ⟨(some 11), .p (.bin .rem), [.tmp 10, .lit (.int .i64 26)], none⟩,
    ⟨(some 12), .p (.bin .add), [.lit (.int .i64 65), .tmp 11], none⟩,
    ⟨(some 13), .p (.convInt .u8), [.tmp 12], none⟩,
    ⟨(some 14), .p .move, [.tmp 1], none⟩,
    ⟨(some 15), .p (.bin .rem), [.tmp 14, .lit (.int .i64 10)], none⟩,
    ⟨(some 16), .p (.bin .add), [.lit (.int .i64 48), .tmp 15], none⟩,
    ⟨(some 17), .p (.convInt .u8), [.tmp 16], none⟩,
    ⟨(some 18), .p .move, [.tmp 1], none⟩,
    ⟨(some 19), .p (.bin .quo), [.tmp 18, .lit (.int .i64 10)], none⟩,
    ⟨(some 20), .p (.bin .rem), [.tmp 19, .lit (.int .i64 10)], none⟩,
    ⟨(some 21), .p (.bin .add), [.lit (.int .i64 48), .tmp 20], none⟩,
    ⟨(some 22), .p (.convInt .u8), [.tmp 21], none⟩,
    ⟨(some 23), .p .move, [.tmp 1], none⟩,
    ⟨(some 24), .p (.bin .quo), [.tmp 23, .lit (.int .i64 100)], none⟩,
    ⟨(some 25), .p (.bin .rem), [.tmp 24, .lit (.int .i64 10)], none⟩,
    ⟨(some 26), .p (.bin .add), [.lit (.int .i64 48), .tmp 25], none⟩,
    ⟨(some 27), .p (.convInt .u8), [.tmp 26], none⟩,
    ⟨(some 28), .a (.buildSlice 1 6 [(.int .u8 0)] [0, 1, 2, 3, 4, 5]), [.lit (.int .u8 109), .tmp 8, .tmp 13, .tmp 17, .tmp 22, .tmp 27], none⟩,
    ⟨(some 29), .r .toStr, [.tmp 28], none⟩,
    ⟨(some 4), .p .move, [.tmp 29], none⟩])
  .ret)), [.tmp 4]⟩
theorem c118 : cFunc Go.Proofs.Tryz.prog false 2 Go.Proofs.Tryz.f118 = some sf118 := by kernel_rfl

/-- strings.Clone -/
def sf119 : SFunc := ⟨1, 5, (.seq (.reg [⟨(some 2), .p .move, [.lit (.str [])], none⟩])
  (.seq (.reg [⟨(some 3), .p .move, [.tmp 0], none⟩,
    ⟨(some 4), .h (.call 122), [.tmp 3], none⟩,
    ⟨(some 2), .p .move, [.tmp 4], none⟩])
  .ret)), [.tmp 2]⟩
theorem c119 : cFunc Go.Proofs.Tryz.prog false 1 Go.Proofs.Tryz.f119 = some sf119 := by kernel_rfl

/-- unicode.is16 -/
def sf120 : SFunc := ⟨2, 114, (.seq (.reg [⟨(some 4), .p .move, [.lit (.bool false)], none⟩])
  (.seq (.seq (.reg [⟨(some 11), .p .move, [.tmp 0], none⟩,
    ⟨(some 12), .p .lenSl, [.tmp 11], none⟩,
    ⟨(some 13), .p (.bin .leq), [.tmp 12, .lit (.int .i64 18)], none⟩,
    ⟨(some 14), .p .move, [.tmp 13], none⟩,
    ⟨(some 15), .p .move, [.tmp 1], some (14, false)⟩,
    ⟨(some 16), .p (.bin .leq), [.tmp 15, .lit (.int .u16 255)], some (14, false)⟩,
    ⟨(some 17), .p .pick, [.tmp 14, .lit (.bool true), .tmp 16], none⟩])
  (.cond (.tmp 17) (.seq (.seq (.reg [⟨(some 18), .p .move, [.tmp 0], none⟩,
    ⟨(some 19), .p .lenSl, [.tmp 18], none⟩,
    ⟨(some 20), .p .move, [.lit (.int .i64 0)], none⟩])
  (.block 0 (.loop [0, 1, 19, 20] (.seq (.reg [⟨(some 21), .p (.bin .lss), [.tmp 20, .tmp 19], none⟩])
  (.seq (.cond (.tmp 21) .skip
  (.exit 0))
  (.seq (.block 1 (.seq (.reg [⟨(some 22), .p .move, [.tmp 20], none⟩,
    ⟨(some 5), .p .move, [.tmp 22], none⟩])
  (.seq (.reg [⟨(some 23), .p .move, [.tmp 0], none⟩,
    ⟨(some 24), .p .move, [.tmp 5], none⟩,
    ⟨(some 25), .p (.indexAddr 3), [.tmp 23, .tmp 24], none⟩,
    ⟨(some 6), .p .move, [.tmp 25], none⟩])
  (.seq (.seq (.reg [⟨(some 26), .p .move, [.tmp 1], none⟩,
    ⟨(some 27), .p .move, [.tmp 6], none⟩,
    ⟨(some 28), .p .nilCheck, [.tmp 27], none⟩,
    ⟨(some 29), .p (.fieldAddr 0), [.tmp 28], none⟩,
    ⟨(some 30), .r (.load none), [.tmp 29], none⟩,
    ⟨(some 31), .p (.bin .lss), [.tmp 26, .tmp 30], none⟩])
  (.cond (.tmp 31) (.seq (.reg [⟨(some 4), .p .move, [.lit (.bool false)], none⟩])
  .ret)
  .skip))
  (.seq (.reg [⟨(some 32), .p .move, [.tmp 1], none⟩,
    ⟨(some 33), .p .move, [.tmp 6], none⟩,
    ⟨(some 34), .p .nilCheck, [.tmp 33], none⟩,
    ⟨(some 35), .p (.fieldAddr 1), [.tmp 34], none⟩,
    ⟨(some 36), .r (.load none), [.tmp 35], none⟩,
    ⟨(some 37), .p (.bin .leq), [.tmp 32, .tmp 36], none⟩])
  (.cond (.tmp 37) (.seq (.dreg [⟨[⟨(some 38), .p .move, [.tmp 6], none⟩,
    ⟨(some 39), .p .nilCheck, [.tmp 38], none⟩,
    ⟨(some 40), .p (.fieldAddr 2), [.tmp 39], none⟩,
    ⟨(some 41), .r (.load none), [.tmp 40], none⟩,
    ⟨(some 42), .p (.bin .eql), [.tmp 41, .lit (.int .u16 1)], none⟩,
    ⟨(some 43), .p .move, [.tmp 42], none⟩,
    ⟨(some 44), .p .move, [.tmp 1], some (43, false)⟩,
    ⟨(some 45), .p .move, [.tmp 6], some (43, false)⟩,
    ⟨(some 46), .p .nilCheck, [.tmp 45], some (43, false)⟩,
    ⟨(some 47), .p (.fieldAddr 0), [.tmp 46], some (43, false)⟩,
    ⟨(some 48), .r (.load none), [.tmp 47], some (43, false)⟩,
    ⟨(some 49), .p (.bin .sub), [.tmp 44, .tmp 48], some (43, false)⟩,
    ⟨(some 50), .p .move, [.tmp 6], some (43, false)⟩,
    ⟨(some 51), .p .nilCheck, [.tmp 50], some (43, false)⟩,
    ⟨(some 52), .p (.fieldAddr 2), [.tmp 51], some (43, false)⟩,
    ⟨(some 53), .r (.load none), [.tmp 52], some (43, false)⟩,
    ⟨(some 54), .p (.bin .rem), [.tmp 49, .tmp 53], some (43, false)⟩,
    ⟨(some 55), .p (.bin .eql), [.tmp 54, .lit (.int .u16 0)], some (43, false)⟩,
    ⟨(some 56), .p .pick, [.tmp 43, .lit (.bool true), .tmp 55], none⟩,
    ⟨(some 4), .p .move, [.tmp 56], none⟩], [], none⟩])
  .ret)
  .skip))))))
  (.reg [⟨(some 57), .p (.bin .add), [.tmp 20, .lit (.int .i64 1)], none⟩,
    ⟨(some 20), .p .move, [.tmp 57], none⟩])))))))
  (.seq (.reg [⟨(some 4), .p .move, [.lit (.bool false)], none⟩])
  .ret))
  .skip))
  (.seq (.reg [⟨(some 7), .p .move, [.lit (.int .i64 0)], none⟩])
  (.seq (.reg [⟨(some 58), .p .move, [.tmp 0], none⟩,
    ⟨(some 59), .p .lenSl, [.tmp 58], none⟩,
    ⟨(some 8), .p .move, [.tmp 59], none⟩])
  (.seq (.block 2 (.loop [0, 1, 7, 8] (.seq (.seq (.reg [⟨(some 60), .p .move, [.tmp 7], none⟩,
    ⟨(some 61), .p .move, [.tmp 8], none⟩,
    ⟨(some 62), .p (.bin .lss), [.tmp 60, .tmp 61], none⟩])
  (.cond (.tmp 62) .skip
  (.exit 2)))
  (.block 3 (.seq (.reg [⟨(some 63), .p .move, [.tmp 7], none⟩,
    ⟨(some 64), .p .move, [.tmp 8], none⟩,
    ⟨(some 65), .p (.bin .add), [.tmp 63, .tmp 64], none⟩,
    ⟨(some 66), .p (.convInt .u64), [.tmp 65], none⟩,
    ⟨(some 67), .p (.bin .shr), [.tmp 66, .lit (.int .u64 1)], none⟩,
    ⟨(some 68), .p (.convInt .i64), [.tmp 67], none⟩,
    ⟨(some 9), .p .move, [.tmp 68], none⟩])
  (.seq (.reg [⟨(some 69), .p .move, [.tmp 0], none⟩,
    ⟨(some 70), .p .move, [.tmp 9], none⟩,
    ⟨(some 71), .p (.indexAddr 3), [.tmp 69, .tmp 70], none⟩,
    ⟨(some 10), .p .move, [.tmp 71], none⟩])
  (.seq (.seq (.reg [⟨(some 72), .p .move, [.tmp 10], none⟩,
    ⟨(some 73), .p .nilCheck, [.tmp 72], none⟩,
    ⟨(some 74), .p (.fieldAddr 0), [.tmp 73], none⟩,
    ⟨(some 75), .r (.load none), [.tmp 74], none⟩,
    ⟨(some 76), .p .move, [.tmp 1], none⟩,
    ⟨(some 77), .p (.bin .leq), [.tmp 75, .tmp 76], none⟩,
    ⟨(some 78), .p .move, [.tmp 77], none⟩,
    ⟨(some 79), .p .move, [.tmp 1], some (78, true)⟩,
    ⟨(some 80), .p .move, [.tmp 10], some (78, true)⟩,
    ⟨(some 81), .p .nilCheck, [.tmp 80], some (78, true)⟩,
    ⟨(some 82), .p (.fieldAddr 1), [.tmp 81], some (78, true)⟩,
    ⟨(some 83), .r (.load none), [.tmp 82], some (78, true)⟩,
    ⟨(some 84), .p (.bin .leq), [.tmp 79, .tmp 83], some (78, true)⟩,
    ⟨(some 85), .p .pick, [.tmp 78, .tmp 84, .lit (.bool false)], none⟩])
  (.cond (.tmp 85) (.seq (.dreg [⟨[⟨(some 86), .p .move, [.tmp 10], none⟩,
    ⟨(some 87), .p .nilCheck, [.tmp 86], none⟩,
    ⟨(some 88), .p (.fieldAddr 2), [.tmp 87], none⟩,
    ⟨(some 89), .r (.load none), [.tmp 88], none⟩,
    ⟨(some 90), .p (.bin .eql), [.tmp 89, .lit (.int .u16 1)], none⟩,
    ⟨(some 91), .p .move, [.tmp 90], none⟩,
    ⟨(some 92), .p .move, [.tmp 1], some (91, false)⟩,
    ⟨(some 93), .p .move, [.tmp 10], some (91, false)⟩,
    ⟨(some 94), .p .nilCheck, [.tmp 93], some (91, false)⟩,
    ⟨(some 95), .p (.fieldAddr 0), [.tmp 94], some (91, false)⟩,
    ⟨(some 96), .r (.load none), [.tmp 95], some (91, false)⟩,
    ⟨(some 97), .p (.bin .sub), [.tmp 92, .tmp 96], some (91, false)⟩,
    ⟨(some 98), .p .move, [.tmp 10], some (91, false)⟩,
    ⟨(some 99), .p .nilCheck, [.tmp 98], some (91, false)⟩,
    ⟨(some 100), .p (.fieldAddr 2), [.tmp 99], some (91, false)⟩,
    ⟨(some 101), .r (.load none), [.tmp 100], some (91, false)⟩,
    ⟨(some 102), .p (.bin .rem), [.tmp 97, .tmp 101], some (91, false)⟩,
    ⟨(some 103), .p (.bin .eql), [.tmp 102, .lit (.int .u16 0)], some (91, false)⟩,
    ⟨(some 104), .p .pick, [.tmp 91, .lit (.bool true), .tmp 103], none⟩,
    ⟨(some 4), .p .move, [.tmp 104], none⟩], [], none⟩])
  .ret)
  .skip))
  (.seq (.reg [⟨(some 105), .p .move, [.tmp 1], none⟩,
    ⟨(some 106), .p .move, [.tmp 10], none⟩,
    ⟨(some 107), .p .nilCheck, [.tmp 106], none⟩,
    ⟨(some 108), .p (.fieldAddr 0), [.tmp 107], none⟩,
    ⟨(some 109), .r (.load none), [.tmp 108], none⟩,
    ⟨(some 110), .p (.bin .lss), [.tmp 105, .tmp 109], none⟩])
  (.cond (.tmp 110) (.reg [⟨(some 111), .p .move, [.tmp 9], none⟩,
    ⟨(some 8), .p .move, [.tmp 111], none⟩])
  (.reg [⟨(some 112), .p .move, [.tmp 9], none⟩,
    ⟨(some 113), .p (.bin .add), [.tmp 112, .lit (.int .i64 1)], none⟩,
    ⟨(some 7), .p .move, [.tmp 113], none⟩]))))))))))
  (.seq (.reg [⟨(some 4), .p .move, [.lit (.bool false)], none⟩])
  .ret)))))), [.tmp 4]⟩
theorem c120 : cFunc Go.Proofs.Tryz.prog false 2 Go.Proofs.Tryz.f120 = some sf120 := by kernel_rfl

/-- unicode.is32 -/
def sf121 : SFunc := ⟨2, 99, (.seq (.reg [⟨(some 4), .p .move, [.lit (.bool false)], none⟩])
  (.seq (.seq (.reg [⟨(some 11), .p .move, [.tmp 0], none⟩,
    ⟨(some 12), .p .lenSl, [.tmp 11], none⟩,
    ⟨(some 13), .p (.bin .leq), [.tmp 12, .lit (.int .i64 18)], none⟩])
  (.cond (.tmp 13) (.seq (.seq (.reg [⟨(some 14), .p .move, [.tmp 0], none⟩,
    ⟨(some 15), .p .lenSl, [.tmp 14], none⟩,
    ⟨(some 16), .p .move, [.lit (.int .i64 0)], none⟩])
  (.block 0 (.loop [0, 1, 15, 16] (.seq (.reg [⟨(some 17), .p (.bin .lss), [.tmp 16, .tmp 15], none⟩])
  (.seq (.cond (.tmp 17) .skip
  (.exit 0))
  (.seq (.block 1 (.seq (.reg [⟨(some 18), .p .move, [.tmp 16], none⟩,
    ⟨(some 5), .p .move, [.tmp 18], none⟩])
  (.seq (.reg [⟨(some 19), .p .move, [.tmp 0], none⟩,
    ⟨(some 20), .p .move, [.tmp 5], none⟩,
    ⟨(some 21), .p (.indexAddr 3), [.tmp 19, .tmp 20], none⟩,
    ⟨(some 6), .p .move, [.tmp 21], none⟩])
  (.seq (.seq (.reg [⟨(some 22), .p .move, [.tmp 1], none⟩,
    ⟨(some 23), .p .move, [.tmp 6], none⟩,
    ⟨(some 24), .p .nilCheck, [.tmp 23], none⟩,
    ⟨(some 25), .p (.fieldAddr 0), [.tmp 24], none⟩,
    ⟨(some 26), .r (.load none), [.tmp 25], none⟩,
    ⟨(some 27), .p (.bin .lss), [.tmp 22, .tmp 26], none⟩])
  (.cond (.tmp 27) (.seq (.reg [⟨(some 4), .p .move, [.lit (.bool false)], none⟩])
  .ret)
  .skip))
  (.seq (.reg [⟨(some 28), .p .move, [.tmp 1], none⟩,
    ⟨(some 29), .p .move, [.tmp 6], none⟩,
    ⟨(some 30), .p .nilCheck, [.tmp 29], none⟩,
    ⟨(some 31), .p (.fieldAddr 1), [.tmp 30], none⟩,
    ⟨(some 32), .r (.load none), [.tmp 31], none⟩,
    ⟨(some 33), .p (.bin .leq), [.tmp 28, .tmp 32], none⟩])
  (.cond (.tmp 33) (.seq (.dreg [⟨[⟨(some 34), .p .move, [.tmp 6], none⟩,
    ⟨(some 35), .p .nilCheck, [.tmp 34], none⟩,
    ⟨(some 36), .p (.fieldAddr 2), [.tmp 35], none⟩,
    ⟨(some 37), .r (.load none), [.tmp 36], none⟩,
    ⟨(some 38), .p (.bin .eql), [.tmp 37, .lit (.int .u32 1)], none⟩,
    ⟨(some 39), .p .move, [.tmp 38], none⟩,
    ⟨(some 40), .p .move, [.tmp 1], some (39, false)⟩,
    ⟨(some 41), .p .move, [.tmp 6], some (39, false)⟩,
    ⟨(some 42), .p .nilCheck, [.tmp 41], some (39, false)⟩,
    ⟨(some 43), .p (.fieldAddr 0), [.tmp 42], some (39, false)⟩,
    ⟨(some 44), .r (.load none), [.tmp 43], some (39, false)⟩,
    ⟨(some 45), .p (.bin .sub), [.tmp 40, .tmp 44], some (39, false)⟩,
    ⟨(some 46), .p .move, [.tmp 6], some (39, false)⟩,
    ⟨(some 47), .p .nilCheck, [.tmp 46], some (39, false)⟩,
    ⟨(some 48), .p (.fieldAddr 2), [.tmp 47], some (39, false)⟩,
    ⟨(some 49), .r (.load none), [.tmp 48], some (39, false)⟩,
    ⟨(some 50), .p (.bin .rem), [.tmp 45, .tmp 49], some (39, false)⟩,
    ⟨(some 51), .p (.bin .eql), [.tmp 50, .lit (.int .u32 0)], some (39, false)⟩,
    ⟨(some 52), .p .pick, [.tmp 39, .lit (.bool true), .tmp 51], none⟩,
    ⟨(some 4), .p .move, [.tmp 52], none⟩], [], none⟩])
  .ret)
  .skip))))))
  (.reg [⟨(some 53), .p (.bin .add), [.tmp 16, .lit (.int .i64 1)], none⟩,
    ⟨(some 16), .p .move, [.tmp 53], none⟩])))))))
  (.seq (.reg [⟨(some 4), .p .move, [.lit (.bool false)], none⟩])
  .ret))
  .skip))
  (.seq (.reg [⟨(some 7), .p .move, [.lit (.int .i64 0)], none⟩])
  (.seq (.reg [⟨(some 54), .p .move, [.tmp 0], none⟩,
    ⟨(some 55), .p .lenSl, [.tmp 54], none⟩,
    ⟨(some 8), .p .move, [.tmp 55], none⟩])
  (.seq (.block 2 (.loop [0, 1, 7, 8] (.seq (.seq (.reg [⟨(some 56), .p .move, [.tmp 7], none⟩,
    ⟨(some 57), .p .move, [.tmp 8], none⟩,
    ⟨(some 58), .p (.bin .lss), [.tmp 56, .tmp 57], none⟩])
  (.cond (.tmp 58) .skip
  (.exit 2)))
  (.block 3 (.seq (.reg [⟨(some 59), .p .move, [.tmp 7], none⟩,
    ⟨(some 60), .p .move, [.tmp 8], none⟩,
    ⟨(some 61), .p (.bin .add), [.tmp 59, .tmp 60], none⟩,
    ⟨(some 62), .p (.convInt .u64), [.tmp 61], none⟩,
    ⟨(some 63), .p (.bin .shr), [.tmp 62, .lit (.int .u64 1)], none⟩,
    ⟨(some 64), .p (.convInt .i64), [.tmp 63], none⟩,
    ⟨(some 9), .p .move, [.tmp 64], none⟩])
  (.seq (.reg [⟨(some 65), .p .move, [.tmp 0], none⟩,
    ⟨(some 66), .p .move, [.tmp 9], none⟩,
    ⟨(some 67), .p (.indexAddr 3), [.tmp 65, .tmp 66], none⟩,
    ⟨(some 68), .r (.load (some 3)), [.tmp 67], none⟩,
    ⟨(some 10), .a (.alloc [(.int .u32 0), (.int .u32 0), (.int .u32 0)]), [], none⟩,
    ⟨none, .h (.store 3), [.tmp 10, .tmp 68], none⟩])
  (.seq (.seq (.reg [⟨(some 69), .p (.fieldAddr 0), [.tmp 10], none⟩,
    ⟨(some 70), .r (.load none), [.tmp 69], none⟩,
    ⟨(some 71), .p .move, [.tmp 1], none⟩,
    ⟨(some 72), .p (.bin .leq), [.tmp 70, .tmp 71], none⟩,
    ⟨(some 73), .p .move, [.tmp 72], none⟩,
    ⟨(some 74), .p .move, [.tmp 1], some (73, true)⟩,
    ⟨(some 75), .p (.fieldAddr 1), [.tmp 10], some (73, true)⟩,
    ⟨(some 76), .r (.load none), [.tmp 75], some (73, true)⟩,
    ⟨(some 77), .p (.bin .leq), [.tmp 74, .tmp 76], some (73, true)⟩,
    ⟨(some 78), .p .pick, [.tmp 73, .tmp 77, .lit (.bool false)], none⟩])
  (.cond (.tmp 78) (.seq (.reg [⟨(some 79), .p (.fieldAddr 2), [.tmp 10], none⟩,
    ⟨(some 80), .r (.load none), [.tmp 79], none⟩,
    ⟨(some 81), .p (.bin .eql), [.tmp 80, .lit (.int .u32 1)], none⟩,
    ⟨(some 82), .p .move, [.tmp 81], none⟩,
    ⟨(some 83), .p .move, [.tmp 1], some (82, false)⟩,
    ⟨(some 84), .p (.fieldAddr 0), [.tmp 10], some (82, false)⟩,
    ⟨(some 85), .r (.load none), [.tmp 84], some (82, false)⟩,
    ⟨(some 86), .p (.bin .sub), [.tmp 83, .tmp 85], some (82, false)⟩,
    ⟨(some 87), .p (.fieldAddr 2), [.tmp 10], some (82, false)⟩,
    ⟨(some 88), .r (.load none), [.tmp 87], some (82, false)⟩,
    ⟨(some 89), .p (.bin .rem), [.tmp 86, .tmp 88], some (82, false)⟩,
    ⟨(some 90), .p (.bin .eql), [.tmp 89, .lit (.int .u32 0)], some (82, false)⟩,
    ⟨(some 91), .p .pick, [.tmp 82, .lit (.bool true), .tmp 90], none⟩,
    ⟨(some 4), .p .move, [.tmp 91], none⟩])
  .ret)
  .skip))
  (.seq (.reg [⟨(some 92), .p .move, [.tmp 1], none⟩,
    ⟨(some 93), .p (.fieldAddr 0), [.tmp 10], none⟩,
    ⟨(some 94), .r (.load none), [.tmp 93], none⟩,
    ⟨(some 95), .p (.bin .lss), [.tmp 92, .tmp 94], none⟩])
  (.cond (.tmp 95) (.reg [⟨(some 96), .p .move, [.tmp 9], none⟩,
    ⟨(some 8), .p .move, [.tmp 96], none⟩])
  (.reg [⟨(some 97), .p .move, [.tmp 9], none⟩,
    ⟨(some 98), .p (.bin .add), [.tmp 97, .lit (.int .i64 1)], none⟩,
    ⟨(some 7), .p .move, [.tmp 98], none⟩]))))))))))
  (.seq (.reg [⟨(some 4), .p .move, [.lit (.bool false)], none⟩])
  .ret)))))), [.tmp 4]⟩
theorem c121 : cFunc Go.Proofs.Tryz.prog false 2 Go.Proofs.Tryz.f121 = some sf121 := by kernel_rfl

def fs : FuncId → Option SFunc
  | 3 => some sf3
  | 4 => some sf4
  | 5 => some sf5
  | 6 => some sf6
  | 7 => some sf7
  | 8 => some sf8
  | 9 => some sf9
  | 10 => some sf10
  | 11 => some sf11
  | 12 => some sf12
  | 13 => some sf13
  | 14 => some sf14
  | 15 => some sf15
  | 16 => some sf16
  | 17 => some sf17
  | 18 => some sf18
  | 19 => some sf19
  | 20 => some sf20
  | 21 => some sf21
  | 22 => some sf22
  | 23 => some sf23
  | 25 => some sf25
  | 26 => some sf26
  | 27 => some sf27
  | 28 => some sf28
  | 29 => some sf29
  | 30 => some sf30
  | 31 => some sf31
  | 32 => some sf32
  | 33 => some sf33
  | 34 => some sf34
  | 35 => some sf35
  | 36 => some sf36
  | 37 => some sf37
  | 38 => some sf38
  | 39 => some sf39
  | 40 => some sf40
  | 41 => some sf41
  | 42 => some sf42
  | 44 => some sf44
  | 45 => some sf45
  | 46 => some sf46
  | 47 => some sf47
  | 48 => some sf48
  | 49 => some sf49
  | 50 => some sf50
  | 51 => some sf51
  | 52 => some sf52
  | 53 => some sf53
  | 54 => some sf54
  | 55 => some sf55
  | 56 => some sf56
  | 57 => some sf57
  | 58 => some sf58
  | 59 => some sf59
  | 60 => some sf60
  | 61 => some sf61
  | 62 => some sf62
  | 63 => some sf63
  | 64 => some sf64
  | 65 => some sf65
  | 66 => some sf66
  | 67 => some sf67
  | 68 => some sf68
  | 69 => some sf69
  | 70 => some sf70
  | 71 => some sf71
  | 72 => some sf72
  | 74 => some sf74
  | 75 => some sf75
  | 76 => some sf76
  | 77 => some sf77
  | 78 => some sf78
  | 79 => some sf79
  | 80 => some sf80
  | 81 => some sf81
  | 82 => some sf82
  | 83 => some sf83
  | 84 => some sf84
  | 85 => some sf85
  | 86 => some sf86
  | 87 => some sf87
  | 88 => some sf88
  | 89 => some sf89
  | 90 => some sf90
  | 91 => some sf91
  | 92 => some sf92
  | 95 => some sf95
  | 96 => some sf96
  | 97 => some sf97
  | 98 => some sf98
  | 99 => some sf99
  | 100 => some sf100
  | 101 => some sf101
  | 102 => some sf102
  | 103 => some sf103
  | 104 => some sf104
  | 105 => some sf105
  | 106 => some sf106
  | 107 => some sf107
  | 109 => some sf109
  | 110 => some sf110
  | 111 => some sf111
  | 112 => some sf112
  | 113 => some sf113
  | 114 => some sf114
  | 115 => some sf115
  | 116 => some sf116
  | 117 => some sf117
  | 118 => some sf118
  | 119 => some sf119
  | 120 => some sf120
  | 121 => some sf121
  | _ => none
theorem fsOk : FsOk Go.Proofs.Tryz.prog fs := by
  intro f sf h
  unfold fs at h
  split at h
  · cases h; exact ⟨Go.Proofs.Tryz.f3, _, _, Go.Proofs.Tryz.func3, c3⟩
  · cases h; exact ⟨Go.Proofs.Tryz.f4, _, _, Go.Proofs.Tryz.func4, c4⟩
  · cases h; exact ⟨Go.Proofs.Tryz.f5, _, _, Go.Proofs.Tryz.func5, c5⟩
  · cases h; exact ⟨Go.Proofs.Tryz.f6, _, _, Go.Proofs.Tryz.func6, c6⟩
  · cases h; exact ⟨Go.Proofs.Tryz.f7, _, _, Go.Proofs.Tryz.func7, c7⟩
  · cases h; exact ⟨Go.Proofs.Tryz.f8, _, _, Go.Proofs.Tryz.func8, c8⟩
  · cases h; exact ⟨Go.Proofs.Tryz.f9, _, _, Go.Proofs.Tryz.func9, c9⟩
  · cases h; exact ⟨Go.Proofs.Tryz.f10, _, _, Go.Proofs.Tryz.func10, c10⟩
  · cases h; exact ⟨Go.Proofs.Tryz.f11, _, _, Go.Proofs.Tryz.func11, c11⟩
  · cases h; exact ⟨Go.Proofs.Tryz.f12, _, _, Go.Proofs.Tryz.func12, c12⟩
  · cases h; exact ⟨Go.Proofs.Tryz.f13, _, _, Go.Proofs.Tryz.func13, c13⟩
  · cases h; exact ⟨Go.Proofs.Tryz.f14, _, _, Go.Proofs.Tryz.func14, c14⟩
  · cases h; exact ⟨Go.Proofs.Tryz.f15, _, _, Go.Proofs.Tryz.func15, c15⟩
  · cases h; exact ⟨Go.Proofs.Tryz.f16, _, _, Go.Proofs.Tryz.func16, c16⟩
  · cases h; exact ⟨Go.Proofs.Tryz.f17, _, _, Go.Proofs.Tryz.func17, c17⟩
  · cases h; exact ⟨Go.Proofs.Tryz.f18, _, _, Go.Proofs.Tryz.func18, c18⟩
  · cases h; exact ⟨Go.Proofs.Tryz.f19, _, _, Go.Proofs.Tryz.func19, c19⟩
  · cases h; exact ⟨Go.Proofs.Tryz.f20, _, _, Go.Proofs.Tryz.func20, c20⟩
  · cases h; exact ⟨Go.Proofs.Tryz.f21, _, _, Go.Proofs.Tryz.func21, c21⟩
  · cases h; exact ⟨Go.Proofs.Tryz.f22, _, _, Go.Proofs.Tryz.func22, c22⟩
  · cases h; exact ⟨Go.Proofs.Tryz.f23, _, _, Go.Proofs.Tryz.func23, c23⟩
  · cases h; exact ⟨Go.Proofs.Tryz.f25, _, _, Go.Proofs.Tryz.func25, c25⟩
  · cases h; exact ⟨Go.Proofs.Tryz.f26, _, _, Go.Proofs.Tryz.func26, c26⟩
  · cases h; exact ⟨Go.Proofs.Tryz.f27, _, _, Go.Proofs.Tryz.func27, c27⟩
  · cases h; exact ⟨Go.Proofs.Tryz.f28, _, _, Go.Proofs.Tryz.func28, c28⟩
  · cases h; exact ⟨Go.Proofs.Tryz.f29, _, _, Go.Proofs.Tryz.func29, c29⟩
  · cases h; exact ⟨Go.Proofs.Tryz.f30, _, _, Go.Proofs.Tryz.func30, c30⟩
  · cases h; exact ⟨Go.Proofs.Tryz.f31, _, _, Go.Proofs.Tryz.func31, c31⟩
  · cases h; exact ⟨Go.Proofs.Tryz.f32, _, _, Go.Proofs.Tryz.func32, c32⟩
  · cases h; exact ⟨Go.Proofs.Tryz.f33, _, _, Go.Proofs.Tryz.func33, c33⟩
  · cases h; exact ⟨Go.Proofs.Tryz.f34, _, _, Go.Proofs.Tryz.func34, c34⟩
  · cases h; exact ⟨Go.Proofs.Tryz.f35, _, _, Go.Proofs.Tryz.func35, c35⟩
  · cases h; exact ⟨Go.Proofs.Tryz.f36, _, _, Go.Proofs.Tryz.func36, c36⟩
  · cases h; exact ⟨Go.Proofs.Tryz.f37, _, _, Go.Proofs.Tryz.func37, c37⟩
  · cases h; exact ⟨Go.Proofs.Tryz.f38, _, _, Go.Proofs.Tryz.func38, c38⟩
  · cases h; exact ⟨Go.Proofs.Tryz.f39, _, _, Go.Proofs.Tryz.func39, c39⟩
  · cases h; exact ⟨Go.Proofs.Tryz.f40, _, _, Go.Proofs.Tryz.func40, c40⟩
  · cases h; exact ⟨Go.Proofs.Tryz.f41, _, _, Go.Proofs.Tryz.func41, c41⟩
  · cases h; exact ⟨Go.Proofs.Tryz.f42, _, _, Go.Proofs.Tryz.func42, c42⟩
  · cases h; exact ⟨Go.Proofs.Tryz.f44, _, _, Go.Proofs.Tryz.func44, c44⟩
  · cases h; exact ⟨Go.Proofs.Tryz.f45, _, _, Go.Proofs.Tryz.func45, c45⟩
  · cases h; exact ⟨Go.Proofs.Tryz.f46, _, _, Go.Proofs.Tryz.func46, c46⟩
  · cases h; exact ⟨Go.Proofs.Tryz.f47, _, _, Go.Proofs.Tryz.func47, c47⟩
  · cases h; exact ⟨Go.Proofs.Tryz.f48, _, _, Go.Proofs.Tryz.func48, c48⟩
  · cases h; exact ⟨Go.Proofs.Tryz.f49, _, _, Go.Proofs.Tryz.func49, c49⟩
  · cases h; exact ⟨Go.Proofs.Tryz.f50, _, _, Go.Proofs.Tryz.func50, c50⟩
  · cases h; exact ⟨Go.Proofs.Tryz.f51, _, _, Go.Proofs.Tryz.func51, c51⟩
  · cases h; exact ⟨Go.Proofs.Tryz.f52, _, _, Go.Proofs.Tryz.func52, c52⟩
  · cases h; exact ⟨Go.Proofs.Tryz.f53, _, _, Go.Proofs.Tryz.func53, c53⟩
  · cases h; exact ⟨Go.Proofs.Tryz.f54, _, _, Go.Proofs.Tryz.func54, c54⟩
  · cases h; exact ⟨Go.Proofs.Tryz.f55, _, _, Go.Proofs.Tryz.func55, c55⟩
  · cases h; exact ⟨Go.Proofs.Tryz.f56, _, _, Go.Proofs.Tryz.func56, c56⟩
  · cases h; exact ⟨Go.Proofs.Tryz.f57, _, _, Go.Proofs.Tryz.func57, c57⟩
  · cases h; exact ⟨Go.Proofs.Tryz.f58, _, _, Go.Proofs.Tryz.func58, c58⟩
  · cases h; exact ⟨Go.Proofs.Tryz.f59, _, _, Go.Proofs.Tryz.func59, c59⟩
  · cases h; exact ⟨Go.Proofs.Tryz.f60, _, _, Go.Proofs.Tryz.func60, c60⟩
  · cases h; exact ⟨Go.Proofs.Tryz.f61, _, _, Go.Proofs.Tryz.func61, c61⟩
  · cases h; exact ⟨Go.Proofs.Tryz.f62, _, _, Go.Proofs.Tryz.func62, c62⟩
  · cases h; exact ⟨Go.Proofs.Tryz.f63, _, _, Go.Proofs.Tryz.func63, c63⟩
  · cases h; exact ⟨Go.Proofs.Tryz.f64, _, _, Go.Proofs.Tryz.func64, c64⟩
  · cases h; exact ⟨Go.Proofs.Tryz.f65, _, _, Go.Proofs.Tryz.func65, c65⟩
  · cases h; exact ⟨Go.Proofs.Tryz.f66, _, _, Go.Proofs.Tryz.func66, c66⟩
  · cases h; exact ⟨Go.Proofs.Tryz.f67, _, _, Go.Proofs.Tryz.func67, c67⟩
  · cases h; exact ⟨Go.Proofs.Tryz.f68, _, _, Go.Proofs.Tryz.func68, c68⟩
  · cases h; exact ⟨Go.Proofs.Tryz.f69, _, _, Go.Proofs.Tryz.func69, c69⟩
  · cases h; exact ⟨Go.Proofs.Tryz.f70, _, _, Go.Proofs.Tryz.func70, c70⟩
  · cases h; exact ⟨Go.Proofs.Tryz.f71, _, _, Go.Proofs.Tryz.func71, c71⟩
  · cases h; exact ⟨Go.Proofs.Tryz.f72, _, _, Go.Proofs.Tryz.func72, c72⟩
  · cases h; exact ⟨Go.Proofs.Tryz.f74, _, _, Go.Proofs.Tryz.func74, c74⟩
  · cases h; exact ⟨Go.Proofs.Tryz.f75, _, _, Go.Proofs.Tryz.func75, c75⟩
  · cases h; exact ⟨Go.Proofs.Tryz.f76, _, _, Go.Proofs.Tryz.func76, c76⟩
  · cases h; exact ⟨Go.Proofs.Tryz.f77, _, _, Go.Proofs.Tryz.func77, c77⟩
  · cases h; exact ⟨Go.Proofs.Tryz.f78, _, _, Go.Proofs.Tryz.func78, c78⟩
  · cases h; exact ⟨Go.Proofs.Tryz.f79, _, _, Go.Proofs.Tryz.func79, c79⟩
  · cases h; exact ⟨Go.Proofs.Tryz.f80, _, _, Go.Proofs.Tryz.func80, c80⟩
  · cases h; exact ⟨Go.Proofs.Tryz.f81, _, _, Go.Proofs.Tryz.func81, c81⟩
  · cases h; exact ⟨Go.Proofs.Tryz.f82, _, _, Go.Proofs.Tryz.func82, c82⟩
  · cases h; exact ⟨Go.Proofs.Tryz.f83, _, _, Go.Proofs.Tryz.func83, c83⟩
  · cases h; exact ⟨Go.Proofs.Tryz.f84, _, _, Go.Proofs.Tryz.func84, c84⟩
  · cases h; exact ⟨Go.Proofs.Tryz.f85, _, _, Go.Proofs.Tryz.func85, c85⟩
  · cases h; exact ⟨Go.Proofs.Tryz.f86, _, _, Go.Proofs.Tryz.func86, c86⟩
  · cases h; exact ⟨Go.Proofs.Tryz.f87, _, _, Go.Proofs.Tryz.func87, c87⟩
  · cases h; exact ⟨Go.Proofs.Tryz.f88, _, _, Go.Proofs.Tryz.func88, c88⟩
  · cases h; exact ⟨Go.Proofs.Tryz.f89, _, _, Go.Proofs.Tryz.func89, c89⟩
  · cases h; exact ⟨Go.Proofs.Tryz.f90, _, _, Go.Proofs.Tryz.func90, c90⟩
  · cases h; exact ⟨Go.Proofs.Tryz.f91, _, _, Go.Proofs.Tryz.func91, c91⟩
  · cases h; exact ⟨Go.Proofs.Tryz.f92, _, _, Go.Proofs.Tryz.func92, c92⟩
  · cases h; exact ⟨Go.Proofs.Tryz.f95, _, _, Go.Proofs.Tryz.func95, c95⟩
  · cases h; exact ⟨Go.Proofs.Tryz.f96, _, _, Go.Proofs.Tryz.func96, c96⟩
  · cases h; exact ⟨Go.Proofs.Tryz.f97, _, _, Go.Proofs.Tryz.func97, c97⟩
  · cases h; exact ⟨Go.Proofs.Tryz.f98, _, _, Go.Proofs.Tryz.func98, c98⟩
  · cases h; exact ⟨Go.Proofs.Tryz.f99, _, _, Go.Proofs.Tryz.func99, c99⟩
  · cases h; exact ⟨Go.Proofs.Tryz.f100, _, _, Go.Proofs.Tryz.func100, c100⟩
  · cases h; exact ⟨Go.Proofs.Tryz.f101, _, _, Go.Proofs.Tryz.func101, c101⟩
  · cases h; exact ⟨Go.Proofs.Tryz.f102, _, _, Go.Proofs.Tryz.func102, c102⟩
  · cases h; exact ⟨Go.Proofs.Tryz.f103, _, _, Go.Proofs.Tryz.func103, c103⟩
  · cases h; exact ⟨Go.Proofs.Tryz.f104, _, _, Go.Proofs.Tryz.func104, c104⟩
  · cases h; exact ⟨Go.Proofs.Tryz.f105, _, _, Go.Proofs.Tryz.func105, c105⟩
  · cases h; exact ⟨Go.Proofs.Tryz.f106, _, _, Go.Proofs.Tryz.func106, c106⟩
  · cases h; exact ⟨Go.Proofs.Tryz.f107, _, _, Go.Proofs.Tryz.func107, c107⟩
  · cases h; exact ⟨Go.Proofs.Tryz.f109, _, _, Go.Proofs.Tryz.func109, c109⟩
  · cases h; exact ⟨Go.Proofs.Tryz.f110, _, _, Go.Proofs.Tryz.func110, c110⟩
  · cases h; exact ⟨Go.Proofs.Tryz.f111, _, _, Go.Proofs.Tryz.func111, c111⟩
  · cases h; exact ⟨Go.Proofs.Tryz.f112, _, _, Go.Proofs.Tryz.func112, c112⟩
  · cases h; exact ⟨Go.Proofs.Tryz.f113, _, _, Go.Proofs.Tryz.func113, c113⟩
  · cases h; exact ⟨Go.Proofs.Tryz.f114, _, _, Go.Proofs.Tryz.func114, c114⟩
  · cases h; exact ⟨Go.Proofs.Tryz.f115, _, _, Go.Proofs.Tryz.func115, c115⟩
  · cases h; exact ⟨Go.Proofs.Tryz.f116, _, _, Go.Proofs.Tryz.func116, c116⟩
  · cases h; exact ⟨Go.Proofs.Tryz.f117, _, _, Go.Proofs.Tryz.func117, c117⟩
  · cases h; exact ⟨Go.Proofs.Tryz.f118, _, _, Go.Proofs.Tryz.func118, c118⟩
  · cases h; exact ⟨Go.Proofs.Tryz.f119, _, _, Go.Proofs.Tryz.func119, c119⟩
  · cases h; exact ⟨Go.Proofs.Tryz.f120, _, _, Go.Proofs.Tryz.func120, c120⟩
  · cases h; exact ⟨Go.Proofs.Tryz.f121, _, _, Go.Proofs.Tryz.func121, c121⟩
  · cases h

end Go.Proofs.YtgnenipkebelfaaGreatDoor.F
