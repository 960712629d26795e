/- The functions of this seat's program, translated for the engine (printed by wip/eng/dump.lean). -/
import Derived.Test.YtnfdgbapionojaaEngV
import Derived.Test.YtnfdgbapionojaaProg
import Derived.KernelRfl
set_option maxRecDepth 1000000
set_option linter.unusedVariables false
namespace Go.Proofs.Ytnfdgbapionojaa.F
open Go Go.Eng

/-- rosary/rosarylaw3.PackTells -/
def sf3 : SFunc := ⟨5, 212, (.seq (.reg [⟨(some 10), .p .move, [.lit (.bool false)], none⟩])
  (.seq (.seq (.reg [⟨(some 27), .p .move, [.tmp 1], none⟩,
    ⟨(some 28), .p .lenStr, [.tmp 27], none⟩,
    ⟨(some 29), .p (.bin .gtr), [.tmp 28, .lit (.int .i64 400)], none⟩,
    ⟨(some 30), .p .move, [.tmp 29], none⟩,
    ⟨(some 31), .p .move, [.tmp 3], some (30, false)⟩,
    ⟨(some 32), .p .lenStr, [.tmp 31], some (30, false)⟩,
    ⟨(some 33), .p (.bin .gtr), [.tmp 32, .lit (.int .i64 600)], some (30, false)⟩,
    ⟨(some 34), .p .pick, [.tmp 30, .lit (.bool true), .tmp 33], none⟩,
    ⟨(some 35), .p .move, [.tmp 34], none⟩,
    ⟨(some 36), .p .move, [.tmp 4], some (35, false)⟩,
    ⟨(some 37), .p .lenSl, [.tmp 36], some (35, false)⟩,
    ⟨(some 38), .p (.bin .gtr), [.tmp 37, .lit (.int .i64 40)], some (35, false)⟩,
    ⟨(some 39), .p .pick, [.tmp 35, .lit (.bool true), .tmp 38], none⟩,
    ⟨(some 40), .p .move, [.tmp 39], none⟩,
    ⟨(some 41), .h (.call 9), [], some (40, false)⟩,
    ⟨(some 42), .p .not, [.tmp 41], some (40, false)⟩,
    ⟨(some 43), .p .pick, [.tmp 40, .lit (.bool true), .tmp 42], none⟩])
  (.cond (.tmp 43) (.seq (.reg [⟨(some 44), .h (.call 9), [], none⟩,
    ⟨(some 10), .p .move, [.tmp 44], none⟩])
  .ret)
  .skip))
  (.seq (.reg [⟨(some 46), .p .move, [.tmp 0], none⟩,
    ⟨(some 47), .h (.call 10), [.tmp 46], none⟩,
    ⟨(some 45), .p .move, [.tmp 47], none⟩,
    ⟨(some 48), .p (.extract 0), [.tmp 45], none⟩,
    ⟨(some 49), .p (.extract 1), [.tmp 45], none⟩,
    ⟨(some 11), .p .move, [.tmp 48], none⟩,
    ⟨(some 12), .p .move, [.tmp 49], none⟩])
  (.seq (.reg [⟨(some 51), .p .move, [.tmp 1], none⟩,
    ⟨(some 52), .h (.call 11), [.tmp 51], none⟩,
    ⟨(some 50), .p .move, [.tmp 52], none⟩,
    ⟨(some 53), .p (.extract 0), [.tmp 50], none⟩,
    ⟨(some 54), .p (.extract 1), [.tmp 50], none⟩,
    ⟨(some 13), .p .move, [.tmp 53], none⟩,
    ⟨(some 14), .p .move, [.tmp 54], none⟩])
  (.seq (.seq (.reg [⟨(some 55), .p .move, [.tmp 12], none⟩,
    ⟨(some 56), .p .move, [.tmp 0], none⟩,
    ⟨(some 57), .p (.bin .geq), [.tmp 56, .lit (.int .i64 0)], none⟩,
    ⟨(some 58), .p .move, [.tmp 57], none⟩,
    ⟨(some 59), .p .move, [.tmp 0], some (58, true)⟩,
    ⟨(some 60), .p (.bin .leq), [.tmp 59, .lit (.int .i64 65535)], some (58, true)⟩,
    ⟨(some 61), .p .pick, [.tmp 58, .tmp 60, .lit (.bool false)], none⟩,
    ⟨(some 62), .p (.eq true .bool), [.tmp 55, .tmp 61], none⟩,
    ⟨(some 63), .p .move, [.tmp 62], none⟩,
    ⟨(some 64), .p .move, [.tmp 12], some (63, false)⟩,
    ⟨(some 65), .p .move, [.tmp 64], some (63, false)⟩,
    ⟨(some 66), .p .move, [.tmp 11], some (65, true)⟩,
    ⟨(some 67), .p .move, [.tmp 0], some (65, true)⟩,
    ⟨(some 68), .h (.call 12), [.tmp 67], some (65, true)⟩,
    ⟨(some 69), .p (.bin .neq), [.tmp 66, .tmp 68], some (65, true)⟩,
    ⟨(some 70), .p .pick, [.tmp 65, .tmp 69, .lit (.bool false)], some (63, false)⟩,
    ⟨(some 71), .p .pick, [.tmp 63, .lit (.bool true), .tmp 70], none⟩,
    ⟨(some 72), .p .move, [.tmp 71], none⟩,
    ⟨(some 73), .p .move, [.tmp 12], some (72, false)⟩,
    ⟨(some 74), .p .not, [.tmp 73], some (72, false)⟩,
    ⟨(some 75), .p .move, [.tmp 74], some (72, false)⟩,
    ⟨(some 76), .p .move, [.tmp 11], some (75, true)⟩,
    ⟨(some 77), .p (.bin .neq), [.tmp 76, .lit (.str [])], some (75, true)⟩,
    ⟨(some 78), .p .pick, [.tmp 75, .tmp 77, .lit (.bool false)], some (72, false)⟩,
    ⟨(some 79), .p .pick, [.tmp 72, .lit (.bool true), .tmp 78], none⟩,
    ⟨(some 80), .p .move, [.tmp 79], none⟩,
    ⟨(some 81), .p .move, [.tmp 14], some (80, false)⟩,
    ⟨(some 82), .p .move, [.tmp 1], some (80, false)⟩,
    ⟨(some 83), .p .lenStr, [.tmp 82], some (80, false)⟩,
    ⟨(some 84), .p (.bin .leq), [.tmp 83, .lit (.int .i64 255)], some (80, false)⟩,
    ⟨(some 85), .p (.eq true .bool), [.tmp 81, .tmp 84], some (80, false)⟩,
    ⟨(some 86), .p .pick, [.tmp 80, .lit (.bool true), .tmp 85], none⟩,
    ⟨(some 87), .p .move, [.tmp 86], none⟩,
    ⟨(some 88), .p .move, [.tmp 14], some (87, false)⟩,
    ⟨(some 89), .p .move, [.tmp 88], some (87, false)⟩,
    ⟨(some 90), .p .move, [.tmp 13], some (89, true)⟩,
    ⟨(some 91), .p .move, [.tmp 1], some (89, true)⟩,
    ⟨(some 92), .h (.call 13), [.tmp 91], some (89, true)⟩,
    ⟨(some 93), .p (.bin .neq), [.tmp 90, .tmp 92], some (89, true)⟩,
    ⟨(some 94), .p .pick, [.tmp 89, .tmp 93, .lit (.bool false)], some (87, false)⟩,
    ⟨(some 95), .p .pick, [.tmp 87, .lit (.bool true), .tmp 94], none⟩,
    ⟨(some 96), .p .move, [.tmp 95], none⟩,
    ⟨(some 97), .p .move, [.tmp 14], some (96, false)⟩,
    ⟨(some 98), .p .not, [.tmp 97], some (96, false)⟩,
    ⟨(some 99), .p .move, [.tmp 98], some (96, false)⟩,
    ⟨(some 100), .p .move, [.tmp 13], some (99, true)⟩,
    ⟨(some 101), .p (.bin .neq), [.tmp 100, .lit (.str [])], some (99, true)⟩,
    ⟨(some 102), .p .pick, [.tmp 99, .tmp 101, .lit (.bool false)], some (96, false)⟩,
    ⟨(some 103), .p .pick, [.tmp 96, .lit (.bool true), .tmp 102], none⟩,
    ⟨(some 104), .p .move, [.tmp 103], none⟩,
    ⟨(some 105), .p .move, [.tmp 2], some (104, false)⟩,
    ⟨(some 106), .h (.call 14), [.tmp 105], some (104, false)⟩,
    ⟨(some 107), .p .move, [.tmp 2], some (104, false)⟩,
    ⟨(some 108), .h (.call 15), [.tmp 107], some (104, false)⟩,
    ⟨(some 109), .p (.bin .neq), [.tmp 106, .tmp 108], some (104, false)⟩,
    ⟨(some 110), .p .pick, [.tmp 104, .lit (.bool true), .tmp 109], none⟩])
  (.cond (.tmp 110) (.seq (.reg [⟨(some 10), .p .move, [.lit (.bool false)], none⟩])
  .ret)
  .skip))
  (.seq (.reg [⟨(some 111), .p .move, [.tmp 3], none⟩,
    ⟨(some 112), .h (.call 16), [.tmp 111], none⟩,
    ⟨(some 113), .p .move, [.tmp 3], none⟩,
    ⟨(some 114), .p (.build [(.str []), (.bool false)] [(0, 1)]), [.tmp 113], none⟩,
    ⟨(some 115), .a .box, [.tmp 114], none⟩,
    ⟨(some 15), .p .move, [.tmp 112], none⟩,
    ⟨(some 16), .p .move, [.tmp 115], none⟩])
  (.seq (.seq (.reg [⟨(some 116), .p .move, [.tmp 15], none⟩,
    ⟨(some 117), .p (.eq false .ptr), [.tmp 116, .lit .nilptr], none⟩])
  (.cond (.tmp 117) (.seq (.reg [⟨(some 10), .p .move, [.lit (.bool false)], none⟩])
  .ret)
  .skip))
  (.seq (.seq (.reg [⟨(some 118), .p .move, [.tmp 4], none⟩,
    ⟨(some 119), .p .lenSl, [.tmp 118], none⟩,
    ⟨(some 120), .p .move, [.lit (.int .i64 0)], none⟩])
  (.block 0 (.loop [15, 16, 118, 119, 120] (.seq (.reg [⟨(some 121), .p (.bin .lss), [.tmp 120, .tmp 119], none⟩])
  (.seq (.cond (.tmp 121) .skip
  (.exit 0))
  (.seq (.block 1 (.seq (.reg [⟨(some 122), .p (.indexAddr 1), [.tmp 118, .tmp 120], none⟩,
    ⟨(some 123), .r (.load none), [.tmp 122], none⟩,
    ⟨(some 18), .p .move, [.tmp 123], none⟩])
  (.seq (.reg [⟨(some 19), .p .move, [.lit (.bool true)], none⟩])
  (.seq (.seq (.reg [⟨(some 124), .p .move, [.tmp 18], none⟩,
    ⟨(some 125), .p (.bin .rem), [.tmp 124, .lit (.int .i64 3)], none⟩])
  (.block 2 (.seq (.reg [⟨(some 134), .p (.bin .eql), [.tmp 125, .lit (.int .i64 0)], none⟩,
    ⟨(some 133), .p .move, [.tmp 134], none⟩])
  (.cond (.tmp 133) (.seq (.reg [⟨(some 135), .p .move, [.tmp 15], none⟩,
    ⟨(some 136), .h (.call 17), [.tmp 135], none⟩,
    ⟨(some 137), .p .move, [.tmp 16], none⟩,
    ⟨(some 138), .h (.call 18), [.tmp 137], none⟩,
    ⟨(some 20), .p .move, [.tmp 136], none⟩,
    ⟨(some 21), .p .move, [.tmp 138], none⟩])
  (.reg [⟨(some 139), .p .move, [.tmp 20], none⟩,
    ⟨(some 140), .p .move, [.tmp 21], none⟩,
    ⟨(some 141), .p (.bin .eql), [.tmp 139, .tmp 140], none⟩,
    ⟨(some 142), .p .move, [.tmp 141], none⟩,
    ⟨(some 143), .p .move, [.tmp 16], some (142, false)⟩,
    ⟨(some 144), .p .nilCheck, [.tmp 143], some (142, false)⟩,
    ⟨(some 145), .p (.fieldAddr 1), [.tmp 144], some (142, false)⟩,
    ⟨(some 146), .r (.load none), [.tmp 145], some (142, false)⟩,
    ⟨(some 147), .p .move, [.tmp 146], some (142, false)⟩,
    ⟨(some 148), .p .move, [.tmp 20], some (147, true)⟩,
    ⟨(some 149), .p (.bin .eql), [.tmp 148, .lit (.int .i64 0)], some (147, true)⟩,
    ⟨(some 150), .p .pick, [.tmp 147, .tmp 149, .lit (.bool false)], some (142, false)⟩,
    ⟨(some 151), .p .pick, [.tmp 142, .lit (.bool true), .tmp 150], none⟩,
    ⟨(some 19), .p .move, [.tmp 151], none⟩]))
  (.seq (.reg [⟨(some 153), .p (.bin .eql), [.tmp 125, .lit (.int .i64 1)], none⟩,
    ⟨(some 152), .p .move, [.tmp 153], none⟩])
  (.cond (.tmp 152) (.seq (.reg [⟨(some 154), .p .move, [.tmp 15], none⟩,
    ⟨(some 155), .h (.call 19), [.tmp 154], none⟩,
    ⟨(some 156), .p .move, [.tmp 16], none⟩,
    ⟨(some 157), .h (.call 20), [.tmp 156], none⟩,
    ⟨(some 22), .p .move, [.tmp 155], none⟩,
    ⟨(some 23), .p .move, [.tmp 157], none⟩])
  (.reg [⟨(some 158), .p .move, [.tmp 22], none⟩,
    ⟨(some 159), .p .move, [.tmp 23], none⟩,
    ⟨(some 160), .p (.bin .eql), [.tmp 158, .tmp 159], none⟩,
    ⟨(some 19), .p .move, [.tmp 160], none⟩]))
  (.seq (.reg [⟨(some 126), .p .move, [.tmp 15], none⟩,
    ⟨(some 127), .h (.call 21), [.tmp 126], none⟩,
    ⟨(some 128), .p .move, [.tmp 16], none⟩,
    ⟨(some 129), .h (.call 22), [.tmp 128], none⟩,
    ⟨(some 24), .p .move, [.tmp 127], none⟩,
    ⟨(some 25), .p .move, [.tmp 129], none⟩])
  (.reg [⟨(some 130), .p .move, [.tmp 24], none⟩,
    ⟨(some 131), .p .move, [.tmp 25], none⟩,
    ⟨(some 132), .p (.bin .eql), [.tmp 130, .tmp 131], none⟩,
    ⟨(some 19), .p .move, [.tmp 132], none⟩]))))))))
  (.seq (.dreg [⟨[⟨(some 161), .p .move, [.tmp 19], none⟩,
    ⟨(some 162), .p .not, [.tmp 161], none⟩,
    ⟨(some 163), .p .move, [.tmp 162], none⟩,
    ⟨(some 164), .p .move, [.tmp 15], some (163, false)⟩,
    ⟨(some 166), .p .move, [.tmp 16], some (163, false)⟩,
    ⟨(some 167), .p .nilCheck, [.tmp 166], some (163, false)⟩,
    ⟨(some 168), .p (.fieldAddr 1), [.tmp 167], some (163, false)⟩,
    ⟨(some 169), .r (.load none), [.tmp 168], some (163, false)⟩], [], some ⟨(some 165), .h (.call 23), [.tmp 164], some (163, false)⟩⟩,
   ⟨[⟨(some 170), .p (.eq true .bool), [.tmp 165, .tmp 169], some (163, false)⟩,
    ⟨(some 171), .p .pick, [.tmp 163, .lit (.bool true), .tmp 170], none⟩,
    ⟨(some 172), .p .move, [.tmp 171], none⟩,
    ⟨(some 173), .p .move, [.tmp 15], some (172, false)⟩,
    ⟨(some 175), .p .move, [.tmp 16], some (172, false)⟩,
    ⟨(some 176), .p .nilCheck, [.tmp 175], some (172, false)⟩,
    ⟨(some 177), .p (.fieldAddr 1), [.tmp 176], some (172, false)⟩,
    ⟨(some 178), .r (.load none), [.tmp 177], some (172, false)⟩,
    ⟨(some 179), .p .not, [.tmp 178], some (172, false)⟩], [⟨(some 169), .r (.load none), [.tmp 168], some (163, false)⟩], some ⟨(some 174), .h (.call 24), [.tmp 173], some (172, false)⟩⟩,
   ⟨[⟨(some 180), .p .move, [.tmp 179], some (172, false)⟩,
    ⟨(some 181), .p .move, [.tmp 16], some (180, true)⟩,
    ⟨(some 182), .p .nilCheck, [.tmp 181], some (180, true)⟩,
    ⟨(some 183), .p (.fieldAddr 0), [.tmp 182], some (180, true)⟩,
    ⟨(some 184), .r (.load none), [.tmp 183], some (180, true)⟩,
    ⟨(some 185), .p (.bin .eql), [.tmp 184, .lit (.str [])], some (180, true)⟩,
    ⟨(some 186), .p .pick, [.tmp 180, .tmp 185, .lit (.bool false)], some (172, false)⟩,
    ⟨(some 187), .p (.eq true .bool), [.tmp 174, .tmp 186], some (172, false)⟩,
    ⟨(some 188), .p .pick, [.tmp 172, .lit (.bool true), .tmp 187], none⟩], [⟨(some 178), .r (.load none), [.tmp 177], some (172, false)⟩], none⟩])
  (.cond (.tmp 188) (.seq (.reg [⟨(some 10), .p .move, [.lit (.bool false)], none⟩])
  .ret)
  .skip))))))
  (.reg [⟨(some 189), .p (.bin .add), [.tmp 120, .lit (.int .i64 1)], none⟩,
    ⟨(some 120), .p .move, [.tmp 189], none⟩])))))))
  (.seq (.reg [⟨(some 26), .p .move, [.lit .nilptr], none⟩])
  (.seq (.reg [⟨(some 190), .p .move, [.tmp 26], none⟩,
    ⟨(some 191), .h (.call 23), [.tmp 190], none⟩,
    ⟨(some 192), .p .move, [.tmp 191], none⟩,
    ⟨(some 193), .p .move, [.tmp 26], some (192, true)⟩,
    ⟨(some 194), .h (.call 24), [.tmp 193], some (192, true)⟩,
    ⟨(some 195), .p .not, [.tmp 194], some (192, true)⟩,
    ⟨(some 196), .p .pick, [.tmp 192, .tmp 195, .lit (.bool false)], none⟩,
    ⟨(some 197), .p .move, [.tmp 196], none⟩,
    ⟨(some 198), .p .move, [.tmp 26], some (197, true)⟩,
    ⟨(some 199), .h (.call 17), [.tmp 198], some (197, true)⟩,
    ⟨(some 200), .p (.bin .eql), [.tmp 199, .lit (.int .i64 0)], some (197, true)⟩,
    ⟨(some 201), .p .pick, [.tmp 197, .tmp 200, .lit (.bool false)], none⟩,
    ⟨(some 202), .p .move, [.tmp 201], none⟩,
    ⟨(some 203), .p .move, [.tmp 26], some (202, true)⟩,
    ⟨(some 204), .h (.call 19), [.tmp 203], some (202, true)⟩,
    ⟨(some 205), .p (.bin .eql), [.tmp 204, .lit (.str [])], some (202, true)⟩,
    ⟨(some 206), .p .pick, [.tmp 202, .tmp 205, .lit (.bool false)], none⟩,
    ⟨(some 207), .p .move, [.tmp 206], none⟩,
    ⟨(some 208), .p .move, [.tmp 26], some (207, true)⟩,
    ⟨(some 209), .h (.call 21), [.tmp 208], some (207, true)⟩,
    ⟨(some 210), .p (.bin .eql), [.tmp 209, .lit (.int .u64 0)], some (207, true)⟩,
    ⟨(some 211), .p .pick, [.tmp 207, .tmp 210, .lit (.bool false)], none⟩,
    ⟨(some 10), .p .move, [.tmp 211], none⟩])
  .ret)))))))))), [.tmp 10]⟩
theorem c3 : cFunc Go.Proofs.Try.prog false 5 Go.Proofs.Try.f3 = some sf3 := by kernel_rfl
def ss3 : List Sh := [(.int .i64), .str, (.int .u64), .str, (.sl 8 (.int .i64))]
theorem cs3 : shsOf Go.Proofs.Try.prog 12 Go.Proofs.Try.f3.params.toList = some ss3 := by kernel_rfl

/-- rosary/rosarylaw3.PackBack -/
def sf4 : SFunc := ⟨3, 158, (.seq (.reg [⟨(some 6), .p .move, [.lit (.bool false)], none⟩])
  (.seq (.seq (.reg [⟨(some 15), .p .move, [.tmp 0], none⟩,
    ⟨(some 16), .p .lenSl, [.tmp 15], none⟩,
    ⟨(some 17), .p (.bin .gtr), [.tmp 16, .lit (.int .i64 30)], none⟩,
    ⟨(some 18), .p .move, [.tmp 17], none⟩,
    ⟨(some 19), .p .move, [.tmp 1], some (18, false)⟩,
    ⟨(some 20), .p .lenSl, [.tmp 19], some (18, false)⟩,
    ⟨(some 21), .p (.bin .gtr), [.tmp 20, .lit (.int .i64 30)], some (18, false)⟩,
    ⟨(some 22), .p .pick, [.tmp 18, .lit (.bool true), .tmp 21], none⟩,
    ⟨(some 23), .p .move, [.tmp 22], none⟩,
    ⟨(some 24), .p .move, [.tmp 2], some (23, false)⟩,
    ⟨(some 25), .p .lenSl, [.tmp 24], some (23, false)⟩,
    ⟨(some 26), .p (.bin .gtr), [.tmp 25, .lit (.int .i64 30)], some (23, false)⟩,
    ⟨(some 27), .p .pick, [.tmp 23, .lit (.bool true), .tmp 26], none⟩,
    ⟨(some 28), .p .move, [.tmp 27], none⟩,
    ⟨(some 29), .h (.call 9), [], some (28, false)⟩,
    ⟨(some 30), .p .not, [.tmp 29], some (28, false)⟩,
    ⟨(some 31), .p .pick, [.tmp 28, .lit (.bool true), .tmp 30], none⟩])
  (.cond (.tmp 31) (.seq (.reg [⟨(some 32), .h (.call 9), [], none⟩,
    ⟨(some 6), .p .move, [.tmp 32], none⟩])
  .ret)
  .skip))
  (.seq (.reg [⟨(some 7), .p .move, [.lit (.str [])], none⟩])
  (.seq (.seq (.reg [⟨(some 8), .p .move, [.lit (.int .i64 0)], none⟩])
  (.block 0 (.loop [0, 1, 2, 7, 8] (.seq (.seq (.reg [⟨(some 33), .p .move, [.tmp 8], none⟩,
    ⟨(some 34), .p (.bin .lss), [.tmp 33, .lit (.int .i64 30)], none⟩])
  (.cond (.tmp 34) .skip
  (.exit 0)))
  (.seq (.block 1 (.seq (.seq (.reg [⟨(some 37), .p .move, [.tmp 8], none⟩,
    ⟨(some 38), .p .move, [.tmp 0], none⟩,
    ⟨(some 39), .p .lenSl, [.tmp 38], none⟩,
    ⟨(some 40), .p (.bin .lss), [.tmp 37, .tmp 39], none⟩])
  (.cond (.tmp 40) (.seq (.reg [⟨(some 42), .p .move, [.tmp 0], none⟩,
    ⟨(some 43), .p .move, [.tmp 8], none⟩,
    ⟨(some 44), .p (.indexAddr 1), [.tmp 42, .tmp 43], none⟩,
    ⟨(some 45), .r (.load none), [.tmp 44], none⟩,
    ⟨(some 46), .h (.call 10), [.tmp 45], none⟩,
    ⟨(some 41), .p .move, [.tmp 46], none⟩,
    ⟨(some 47), .p (.extract 0), [.tmp 41], none⟩,
    ⟨(some 48), .p (.extract 1), [.tmp 41], none⟩,
    ⟨(some 9), .p .move, [.tmp 47], none⟩,
    ⟨(some 10), .p .move, [.tmp 48], none⟩])
  (.seq (.seq (.reg [⟨(some 49), .p .move, [.tmp 10], none⟩,
    ⟨(some 50), .p .not, [.tmp 49], none⟩])
  (.cond (.tmp 50) (.seq (.reg [⟨(some 51), .p .move, [.tmp 0], none⟩,
    ⟨(some 52), .p .move, [.tmp 8], none⟩,
    ⟨(some 53), .p (.indexAddr 1), [.tmp 51, .tmp 52], none⟩,
    ⟨(some 54), .r (.load none), [.tmp 53], none⟩,
    ⟨(some 55), .p (.bin .lss), [.tmp 54, .lit (.int .i64 0)], none⟩,
    ⟨(some 56), .p .move, [.tmp 55], none⟩,
    ⟨(some 57), .p .move, [.tmp 0], some (56, false)⟩,
    ⟨(some 58), .p .move, [.tmp 8], some (56, false)⟩,
    ⟨(some 59), .p (.indexAddr 1), [.tmp 57, .tmp 58], some (56, false)⟩,
    ⟨(some 60), .r (.load none), [.tmp 59], some (56, false)⟩,
    ⟨(some 61), .p (.bin .gtr), [.tmp 60, .lit (.int .i64 65535)], some (56, false)⟩,
    ⟨(some 62), .p .pick, [.tmp 56, .lit (.bool true), .tmp 61], none⟩,
    ⟨(some 6), .p .move, [.tmp 62], none⟩])
  .ret)
  .skip))
  (.reg [⟨(some 63), .p .move, [.tmp 7], none⟩,
    ⟨(some 64), .p .move, [.tmp 9], none⟩,
    ⟨(some 65), .p (.bin .add), [.tmp 63, .tmp 64], none⟩,
    ⟨(some 7), .p .move, [.tmp 65], none⟩])))
  .skip))
  (.seq (.seq (.reg [⟨(some 66), .p .move, [.tmp 8], none⟩,
    ⟨(some 67), .p .move, [.tmp 1], none⟩,
    ⟨(some 68), .p .lenSl, [.tmp 67], none⟩,
    ⟨(some 69), .p (.bin .lss), [.tmp 66, .tmp 68], none⟩])
  (.cond (.tmp 69) (.seq (.reg [⟨(some 71), .p .move, [.tmp 1], none⟩,
    ⟨(some 72), .p .move, [.tmp 8], none⟩,
    ⟨(some 73), .p (.indexAddr 1), [.tmp 71, .tmp 72], none⟩,
    ⟨(some 74), .r (.load none), [.tmp 73], none⟩,
    ⟨(some 75), .h (.call 11), [.tmp 74], none⟩,
    ⟨(some 70), .p .move, [.tmp 75], none⟩,
    ⟨(some 76), .p (.extract 0), [.tmp 70], none⟩,
    ⟨(some 77), .p (.extract 1), [.tmp 70], none⟩,
    ⟨(some 11), .p .move, [.tmp 76], none⟩,
    ⟨(some 12), .p .move, [.tmp 77], none⟩])
  (.seq (.seq (.reg [⟨(some 78), .p .move, [.tmp 12], none⟩,
    ⟨(some 79), .p .not, [.tmp 78], none⟩])
  (.cond (.tmp 79) (.seq (.reg [⟨(some 80), .p .move, [.tmp 1], none⟩,
    ⟨(some 81), .p .move, [.tmp 8], none⟩,
    ⟨(some 82), .p (.indexAddr 1), [.tmp 80, .tmp 81], none⟩,
    ⟨(some 83), .r (.load none), [.tmp 82], none⟩,
    ⟨(some 84), .p .lenStr, [.tmp 83], none⟩,
    ⟨(some 85), .p (.bin .gtr), [.tmp 84, .lit (.int .i64 255)], none⟩,
    ⟨(some 6), .p .move, [.tmp 85], none⟩])
  .ret)
  .skip))
  (.reg [⟨(some 86), .p .move, [.tmp 7], none⟩,
    ⟨(some 87), .p .move, [.tmp 11], none⟩,
    ⟨(some 88), .p (.bin .add), [.tmp 86, .tmp 87], none⟩,
    ⟨(some 7), .p .move, [.tmp 88], none⟩])))
  .skip))
  (.seq (.reg [⟨(some 89), .p .move, [.tmp 8], none⟩,
    ⟨(some 90), .p .move, [.tmp 2], none⟩,
    ⟨(some 91), .p .lenSl, [.tmp 90], none⟩,
    ⟨(some 92), .p (.bin .lss), [.tmp 89, .tmp 91], none⟩])
  (.cond (.tmp 92) (.reg [⟨(some 93), .p .move, [.tmp 7], none⟩,
    ⟨(some 94), .p .move, [.tmp 2], none⟩,
    ⟨(some 95), .p .move, [.tmp 8], none⟩,
    ⟨(some 96), .p (.indexAddr 1), [.tmp 94, .tmp 95], none⟩,
    ⟨(some 97), .r (.load none), [.tmp 96], none⟩,
    ⟨(some 98), .h (.call 14), [.tmp 97], none⟩,
    ⟨(some 99), .p (.bin .add), [.tmp 93, .tmp 98], none⟩,
    ⟨(some 7), .p .move, [.tmp 99], none⟩])
  .skip)))))
  (.reg [⟨(some 35), .p .move, [.tmp 8], none⟩,
    ⟨(some 36), .p (.bin .add), [.tmp 35, .lit (.int .i64 1)], none⟩,
    ⟨(some 8), .p .move, [.tmp 36], none⟩]))))))
  (.seq (.reg [⟨(some 100), .p .move, [.tmp 7], none⟩,
    ⟨(some 101), .h (.call 16), [.tmp 100], none⟩,
    ⟨(some 13), .p .move, [.tmp 101], none⟩])
  (.seq (.seq (.reg [⟨(some 102), .p .move, [.tmp 13], none⟩,
    ⟨(some 103), .p (.eq false .ptr), [.tmp 102, .lit .nilptr], none⟩])
  (.cond (.tmp 103) (.seq (.reg [⟨(some 6), .p .move, [.lit (.bool false)], none⟩])
  .ret)
  .skip))
  (.seq (.seq (.reg [⟨(some 14), .p .move, [.lit (.int .i64 0)], none⟩])
  (.block 2 (.loop [0, 1, 2, 13, 14] (.seq (.seq (.reg [⟨(some 104), .p .move, [.tmp 14], none⟩,
    ⟨(some 105), .p (.bin .lss), [.tmp 104, .lit (.int .i64 30)], none⟩])
  (.cond (.tmp 105) .skip
  (.exit 2)))
  (.seq (.block 3 (.seq (.dreg [⟨[⟨(some 108), .p .move, [.tmp 14], none⟩,
    ⟨(some 109), .p .move, [.tmp 0], none⟩,
    ⟨(some 110), .p .lenSl, [.tmp 109], none⟩,
    ⟨(some 111), .p (.bin .lss), [.tmp 108, .tmp 110], none⟩,
    ⟨(some 112), .p .move, [.tmp 111], none⟩,
    ⟨(some 113), .p .move, [.tmp 13], some (112, true)⟩,
    ⟨(some 115), .p .move, [.tmp 0], some (112, true)⟩,
    ⟨(some 116), .p .move, [.tmp 14], some (112, true)⟩,
    ⟨(some 117), .p (.indexAddr 1), [.tmp 115, .tmp 116], some (112, true)⟩,
    ⟨(some 118), .r (.load none), [.tmp 117], some (112, true)⟩], [], some ⟨(some 114), .h (.call 17), [.tmp 113], some (112, true)⟩⟩,
   ⟨[⟨(some 119), .p (.bin .neq), [.tmp 114, .tmp 118], some (112, true)⟩,
    ⟨(some 120), .p .pick, [.tmp 112, .tmp 119, .lit (.bool false)], none⟩,
    ⟨(some 121), .p .move, [.tmp 120], none⟩,
    ⟨(some 122), .p .move, [.tmp 14], some (121, false)⟩,
    ⟨(some 123), .p .move, [.tmp 1], some (121, false)⟩,
    ⟨(some 124), .p .lenSl, [.tmp 123], some (121, false)⟩,
    ⟨(some 125), .p (.bin .lss), [.tmp 122, .tmp 124], some (121, false)⟩,
    ⟨(some 126), .p .move, [.tmp 125], some (121, false)⟩,
    ⟨(some 127), .p .move, [.tmp 13], some (126, true)⟩,
    ⟨(some 129), .p .move, [.tmp 1], some (126, true)⟩,
    ⟨(some 130), .p .move, [.tmp 14], some (126, true)⟩,
    ⟨(some 131), .p (.indexAddr 1), [.tmp 129, .tmp 130], some (126, true)⟩,
    ⟨(some 132), .r (.load none), [.tmp 131], some (126, true)⟩], [⟨(some 118), .r (.load none), [.tmp 117], some (112, true)⟩], some ⟨(some 128), .h (.call 19), [.tmp 127], some (126, true)⟩⟩,
   ⟨[⟨(some 133), .p (.bin .neq), [.tmp 128, .tmp 132], some (126, true)⟩,
    ⟨(some 134), .p .pick, [.tmp 126, .tmp 133, .lit (.bool false)], some (121, false)⟩,
    ⟨(some 135), .p .pick, [.tmp 121, .lit (.bool true), .tmp 134], none⟩,
    ⟨(some 136), .p .move, [.tmp 135], none⟩,
    ⟨(some 137), .p .move, [.tmp 14], some (136, false)⟩,
    ⟨(some 138), .p .move, [.tmp 2], some (136, false)⟩,
    ⟨(some 139), .p .lenSl, [.tmp 138], some (136, false)⟩,
    ⟨(some 140), .p (.bin .lss), [.tmp 137, .tmp 139], some (136, false)⟩,
    ⟨(some 141), .p .move, [.tmp 140], some (136, false)⟩,
    ⟨(some 142), .p .move, [.tmp 13], some (141, true)⟩,
    ⟨(some 144), .p .move, [.tmp 2], some (141, true)⟩,
    ⟨(some 145), .p .move, [.tmp 14], some (141, true)⟩,
    ⟨(some 146), .p (.indexAddr 1), [.tmp 144, .tmp 145], some (141, true)⟩,
    ⟨(some 147), .r (.load none), [.tmp 146], some (141, true)⟩], [⟨(some 132), .r (.load none), [.tmp 131], some (126, true)⟩], some ⟨(some 143), .h (.call 21), [.tmp 142], some (141, true)⟩⟩,
   ⟨[⟨(some 148), .p (.bin .neq), [.tmp 143, .tmp 147], some (141, true)⟩,
    ⟨(some 149), .p .pick, [.tmp 141, .tmp 148, .lit (.bool false)], some (136, false)⟩,
    ⟨(some 150), .p .pick, [.tmp 136, .lit (.bool true), .tmp 149], none⟩], [⟨(some 147), .r (.load none), [.tmp 146], some (141, true)⟩], none⟩])
  (.cond (.tmp 150) (.seq (.reg [⟨(some 6), .p .move, [.lit (.bool false)], none⟩])
  .ret)
  .skip)))
  (.reg [⟨(some 106), .p .move, [.tmp 14], none⟩,
    ⟨(some 107), .p (.bin .add), [.tmp 106, .lit (.int .i64 1)], none⟩,
    ⟨(some 14), .p .move, [.tmp 107], none⟩]))))))
  (.seq (.reg [⟨(some 151), .p .move, [.tmp 13], none⟩,
    ⟨(some 152), .h (.call 24), [.tmp 151], none⟩,
    ⟨(some 153), .p .move, [.tmp 152], none⟩,
    ⟨(some 154), .p .move, [.tmp 13], some (153, true)⟩,
    ⟨(some 155), .h (.call 23), [.tmp 154], some (153, true)⟩,
    ⟨(some 156), .p .not, [.tmp 155], some (153, true)⟩,
    ⟨(some 157), .p .pick, [.tmp 153, .tmp 156, .lit (.bool false)], none⟩,
    ⟨(some 6), .p .move, [.tmp 157], none⟩])
  .ret)))))))), [.tmp 6]⟩
theorem c4 : cFunc Go.Proofs.Try.prog false 3 Go.Proofs.Try.f4 = some sf4 := by kernel_rfl
def ss4 : List Sh := [(.sl 8 (.int .i64)), (.sl 16 .str), (.sl 8 (.int .u64))]
theorem cs4 : shsOf Go.Proofs.Try.prog 12 Go.Proofs.Try.f4.params.toList = some ss4 := by kernel_rfl

/-- rosary/rosarylaw3.PackCuts -/
def sf5 : SFunc := ⟨2, 118, (.seq (.reg [⟨(some 4), .p .move, [.lit (.bool false)], none⟩])
  (.seq (.seq (.reg [⟨(some 16), .p .move, [.tmp 0], none⟩,
    ⟨(some 17), .p .lenSl, [.tmp 16], none⟩,
    ⟨(some 18), .p (.bin .gtr), [.tmp 17, .lit (.int .i64 20)], none⟩,
    ⟨(some 19), .p .move, [.tmp 18], none⟩,
    ⟨(some 20), .h (.call 9), [], some (19, false)⟩,
    ⟨(some 21), .p .not, [.tmp 20], some (19, false)⟩,
    ⟨(some 22), .p .pick, [.tmp 19, .lit (.bool true), .tmp 21], none⟩])
  (.cond (.tmp 22) (.seq (.reg [⟨(some 23), .h (.call 9), [], none⟩,
    ⟨(some 4), .p .move, [.tmp 23], none⟩])
  .ret)
  .skip))
  (.seq (.reg [⟨(some 5), .p .move, [.lit (.str [])], none⟩])
  (.seq (.seq (.reg [⟨(some 24), .p .move, [.tmp 0], none⟩,
    ⟨(some 25), .p .lenSl, [.tmp 24], none⟩,
    ⟨(some 26), .p .move, [.lit (.int .i64 0)], none⟩])
  (.block 0 (.loop [0, 1, 5, 24, 25, 26] (.seq (.reg [⟨(some 27), .p (.bin .lss), [.tmp 26, .tmp 25], none⟩])
  (.seq (.cond (.tmp 27) .skip
  (.exit 0))
  (.seq (.block 1 (.seq (.reg [⟨(some 28), .p (.indexAddr 1), [.tmp 24, .tmp 26], none⟩,
    ⟨(some 29), .r (.load none), [.tmp 28], none⟩,
    ⟨(some 7), .p .move, [.tmp 29], none⟩])
  (.seq (.reg [⟨(some 31), .p .move, [.tmp 7], none⟩,
    ⟨(some 32), .h (.call 11), [.tmp 31], none⟩,
    ⟨(some 30), .p .move, [.tmp 32], none⟩,
    ⟨(some 33), .p (.extract 0), [.tmp 30], none⟩,
    ⟨(some 34), .p (.extract 1), [.tmp 30], none⟩,
    ⟨(some 8), .p .move, [.tmp 33], none⟩,
    ⟨(some 9), .p .move, [.tmp 34], none⟩])
  (.seq (.seq (.reg [⟨(some 35), .p .move, [.tmp 9], none⟩,
    ⟨(some 36), .p .not, [.tmp 35], none⟩])
  (.cond (.tmp 36) (.seq (.reg [⟨(some 37), .p .move, [.tmp 7], none⟩,
    ⟨(some 38), .p .lenStr, [.tmp 37], none⟩,
    ⟨(some 39), .p (.bin .gtr), [.tmp 38, .lit (.int .i64 255)], none⟩,
    ⟨(some 4), .p .move, [.tmp 39], none⟩])
  .ret)
  .skip))
  (.reg [⟨(some 40), .p .move, [.tmp 5], none⟩,
    ⟨(some 41), .p .move, [.tmp 8], none⟩,
    ⟨(some 42), .p (.bin .add), [.tmp 40, .tmp 41], none⟩,
    ⟨(some 5), .p .move, [.tmp 42], none⟩])))))
  (.reg [⟨(some 43), .p (.bin .add), [.tmp 26, .lit (.int .i64 1)], none⟩,
    ⟨(some 26), .p .move, [.tmp 43], none⟩])))))))
  (.seq (.seq (.reg [⟨(some 44), .p .move, [.tmp 5], none⟩,
    ⟨(some 45), .p (.bin .eql), [.tmp 44, .lit (.str [])], none⟩])
  (.cond (.tmp 45) (.seq (.reg [⟨(some 46), .p .move, [.tmp 5], none⟩,
    ⟨(some 47), .h (.call 16), [.tmp 46], none⟩,
    ⟨(some 48), .p (.eq true .ptr), [.tmp 47, .lit .nilptr], none⟩,
    ⟨(some 4), .p .move, [.tmp 48], none⟩])
  .ret)
  .skip))
  (.seq (.reg [⟨(some 49), .p .move, [.tmp 1], none⟩,
    ⟨(some 50), .p .move, [.tmp 5], none⟩,
    ⟨(some 51), .p .lenStr, [.tmp 50], none⟩,
    ⟨(some 52), .p (.bin .rem), [.tmp 49, .tmp 51], none⟩,
    ⟨(some 53), .p .move, [.tmp 5], none⟩,
    ⟨(some 54), .p .lenStr, [.tmp 53], none⟩,
    ⟨(some 55), .p (.bin .add), [.tmp 52, .tmp 54], none⟩,
    ⟨(some 56), .p .move, [.tmp 5], none⟩,
    ⟨(some 57), .p .lenStr, [.tmp 56], none⟩,
    ⟨(some 58), .p (.bin .rem), [.tmp 55, .tmp 57], none⟩,
    ⟨(some 1), .p .move, [.tmp 58], none⟩])
  (.seq (.reg [⟨(some 59), .p .move, [.tmp 5], none⟩,
    ⟨(some 60), .p .move, [.tmp 1], none⟩,
    ⟨(some 61), .p (.sliceStr false true), [.tmp 59, .tmp 60], none⟩,
    ⟨(some 62), .h (.call 16), [.tmp 61], none⟩,
    ⟨(some 10), .p .move, [.tmp 62], none⟩])
  (.seq (.seq (.reg [⟨(some 63), .p .move, [.tmp 10], none⟩,
    ⟨(some 64), .p (.eq false .ptr), [.tmp 63, .lit .nilptr], none⟩])
  (.cond (.tmp 64) (.seq (.reg [⟨(some 4), .p .move, [.lit (.bool false)], none⟩])
  .ret)
  .skip))
  (.seq (.reg [⟨(some 11), .p .move, [.lit (.int .i64 0)], none⟩,
    ⟨(some 12), .p .move, [.lit (.bool false)], none⟩])
  (.seq (.seq (.reg [⟨(some 65), .p .move, [.tmp 0], none⟩,
    ⟨(some 66), .p .lenSl, [.tmp 65], none⟩,
    ⟨(some 67), .p .move, [.lit (.int .i64 0)], none⟩])
  (.block 2 (.loop [1, 10, 11, 12, 65, 66, 67] (.seq (.reg [⟨(some 68), .p (.bin .lss), [.tmp 67, .tmp 66], none⟩])
  (.seq (.cond (.tmp 68) .skip
  (.exit 2))
  (.seq (.block 3 (.seq (.reg [⟨(some 69), .p (.indexAddr 1), [.tmp 65, .tmp 67], none⟩,
    ⟨(some 70), .r (.load none), [.tmp 69], none⟩,
    ⟨(some 14), .p .move, [.tmp 70], none⟩])
  (.seq (.reg [⟨(some 71), .p .move, [.tmp 11], none⟩,
    ⟨(some 72), .p .move, [.tmp 14], none⟩,
    ⟨(some 73), .p .lenStr, [.tmp 72], none⟩,
    ⟨(some 74), .p (.bin .add), [.lit (.int .i64 1), .tmp 73], none⟩,
    ⟨(some 75), .p (.bin .add), [.tmp 71, .tmp 74], none⟩,
    ⟨(some 11), .p .move, [.tmp 75], none⟩])
  (.seq (.reg [⟨(some 76), .p .move, [.tmp 10], none⟩,
    ⟨(some 77), .h (.call 19), [.tmp 76], none⟩,
    ⟨(some 15), .p .move, [.tmp 77], none⟩])
  (.seq (.seq (.reg [⟨(some 78), .p .move, [.tmp 11], none⟩,
    ⟨(some 79), .p .move, [.tmp 1], none⟩,
    ⟨(some 80), .p (.bin .leq), [.tmp 78, .tmp 79], none⟩,
    ⟨(some 81), .p .move, [.tmp 80], none⟩,
    ⟨(some 82), .p .move, [.tmp 12], some (81, true)⟩,
    ⟨(some 83), .p .not, [.tmp 82], some (81, true)⟩,
    ⟨(some 84), .p .pick, [.tmp 81, .tmp 83, .lit (.bool false)], none⟩,
    ⟨(some 85), .p .move, [.tmp 84], none⟩,
    ⟨(some 86), .p .move, [.tmp 15], some (85, true)⟩,
    ⟨(some 87), .p .move, [.tmp 14], some (85, true)⟩,
    ⟨(some 88), .p (.bin .neq), [.tmp 86, .tmp 87], some (85, true)⟩,
    ⟨(some 89), .p .move, [.tmp 88], some (85, true)⟩,
    ⟨(some 90), .p .move, [.tmp 10], some (89, false)⟩,
    ⟨(some 91), .h (.call 23), [.tmp 90], some (89, false)⟩,
    ⟨(some 92), .p .pick, [.tmp 89, .lit (.bool true), .tmp 91], some (85, true)⟩,
    ⟨(some 93), .p .pick, [.tmp 85, .tmp 92, .lit (.bool false)], none⟩])
  (.cond (.tmp 93) (.seq (.reg [⟨(some 4), .p .move, [.lit (.bool false)], none⟩])
  .ret)
  .skip))
  (.seq (.reg [⟨(some 94), .p .move, [.tmp 11], none⟩,
    ⟨(some 95), .p .move, [.tmp 1], none⟩,
    ⟨(some 96), .p (.bin .gtr), [.tmp 94, .tmp 95], none⟩])
  (.cond (.tmp 96) (.seq (.reg [⟨(some 12), .p .move, [.lit (.bool true)], none⟩])
  (.seq (.reg [⟨(some 97), .p .move, [.tmp 15], none⟩,
    ⟨(some 98), .p (.bin .neq), [.tmp 97, .lit (.str [])], none⟩,
    ⟨(some 99), .p .move, [.tmp 98], none⟩,
    ⟨(some 100), .p .move, [.tmp 10], some (99, false)⟩,
    ⟨(some 101), .h (.call 23), [.tmp 100], some (99, false)⟩,
    ⟨(some 102), .p .not, [.tmp 101], some (99, false)⟩,
    ⟨(some 103), .p .pick, [.tmp 99, .lit (.bool true), .tmp 102], none⟩])
  (.cond (.tmp 103) (.seq (.reg [⟨(some 4), .p .move, [.lit (.bool false)], none⟩])
  .ret)
  .skip)))
  .skip)))))))
  (.reg [⟨(some 104), .p (.bin .add), [.tmp 67, .lit (.int .i64 1)], none⟩,
    ⟨(some 67), .p .move, [.tmp 104], none⟩])))))))
  (.seq (.reg [⟨(some 105), .p .move, [.tmp 10], none⟩,
    ⟨(some 106), .h (.call 24), [.tmp 105], none⟩,
    ⟨(some 107), .p .not, [.tmp 106], none⟩,
    ⟨(some 108), .p .move, [.tmp 107], none⟩,
    ⟨(some 109), .p .move, [.tmp 10], some (108, true)⟩,
    ⟨(some 110), .h (.call 17), [.tmp 109], some (108, true)⟩,
    ⟨(some 111), .p (.bin .eql), [.tmp 110, .lit (.int .i64 0)], some (108, true)⟩,
    ⟨(some 112), .p .pick, [.tmp 108, .tmp 111, .lit (.bool false)], none⟩,
    ⟨(some 113), .p .move, [.tmp 112], none⟩,
    ⟨(some 114), .p .move, [.tmp 10], some (113, true)⟩,
    ⟨(some 115), .h (.call 21), [.tmp 114], some (113, true)⟩,
    ⟨(some 116), .p (.bin .eql), [.tmp 115, .lit (.int .u64 0)], some (113, true)⟩,
    ⟨(some 117), .p .pick, [.tmp 113, .tmp 116, .lit (.bool false)], none⟩,
    ⟨(some 4), .p .move, [.tmp 117], none⟩])
  .ret))))))))))), [.tmp 4]⟩
theorem c5 : cFunc Go.Proofs.Try.prog false 2 Go.Proofs.Try.f5 = some sf5 := by kernel_rfl
def ss5 : List Sh := [(.sl 16 .str), (.int .i64)]
theorem cs5 : shsOf Go.Proofs.Try.prog 12 Go.Proofs.Try.f5.params.toList = some ss5 := by kernel_rfl

/-- rosary/rosarylaw3.PackNums -/
def sf6 : SFunc := ⟨4, 80, (.seq (.reg [⟨(some 8), .p .move, [.lit (.bool false)], none⟩])
  (.seq (.reg [⟨(some 16), .p .move, [.tmp 0], none⟩,
    ⟨(some 17), .h (.call 10), [.tmp 16], none⟩,
    ⟨(some 15), .p .move, [.tmp 17], none⟩,
    ⟨(some 18), .p (.extract 0), [.tmp 15], none⟩,
    ⟨(some 19), .p (.extract 1), [.tmp 15], none⟩,
    ⟨(some 9), .p .move, [.tmp 18], none⟩,
    ⟨(some 10), .p .move, [.tmp 19], none⟩])
  (.seq (.reg [⟨(some 21), .p .move, [.tmp 1], none⟩,
    ⟨(some 22), .h (.call 10), [.tmp 21], none⟩,
    ⟨(some 20), .p .move, [.tmp 22], none⟩,
    ⟨(some 23), .p (.extract 0), [.tmp 20], none⟩,
    ⟨(some 24), .p (.extract 1), [.tmp 20], none⟩,
    ⟨(some 11), .p .move, [.tmp 23], none⟩,
    ⟨(some 12), .p .move, [.tmp 24], none⟩])
  (.seq (.seq (.reg [⟨(some 25), .h (.call 9), [], none⟩,
    ⟨(some 26), .p .not, [.tmp 25], none⟩])
  (.cond (.tmp 26) (.seq (.reg [⟨(some 8), .p .move, [.lit (.bool false)], none⟩])
  .ret)
  .skip))
  (.seq (.seq (.reg [⟨(some 27), .p .move, [.tmp 10], none⟩,
    ⟨(some 28), .p .move, [.tmp 27], none⟩,
    ⟨(some 29), .p .move, [.tmp 12], some (28, true)⟩,
    ⟨(some 30), .p .pick, [.tmp 28, .tmp 29, .lit (.bool false)], none⟩,
    ⟨(some 31), .p .move, [.tmp 30], none⟩,
    ⟨(some 32), .p .move, [.tmp 9], some (31, true)⟩,
    ⟨(some 33), .p .lenStr, [.tmp 32], some (31, true)⟩,
    ⟨(some 34), .p (.bin .neq), [.tmp 33, .lit (.int .i64 2)], some (31, true)⟩,
    ⟨(some 35), .p .move, [.tmp 34], some (31, true)⟩,
    ⟨(some 36), .p .move, [.tmp 9], some (35, false)⟩,
    ⟨(some 37), .p .move, [.tmp 11], some (35, false)⟩,
    ⟨(some 38), .p (.bin .lss), [.tmp 36, .tmp 37], some (35, false)⟩,
    ⟨(some 39), .p .move, [.tmp 0], some (35, false)⟩,
    ⟨(some 40), .p .move, [.tmp 1], some (35, false)⟩,
    ⟨(some 41), .p (.bin .lss), [.tmp 39, .tmp 40], some (35, false)⟩,
    ⟨(some 42), .p (.eq true .bool), [.tmp 38, .tmp 41], some (35, false)⟩,
    ⟨(some 43), .p .pick, [.tmp 35, .lit (.bool true), .tmp 42], some (31, true)⟩,
    ⟨(some 44), .p .pick, [.tmp 31, .tmp 43, .lit (.bool false)], none⟩])
  (.cond (.tmp 44) (.seq (.reg [⟨(some 8), .p .move, [.lit (.bool false)], none⟩])
  .ret)
  .skip))
  (.seq (.reg [⟨(some 45), .p .move, [.tmp 2], none⟩,
    ⟨(some 46), .h (.call 14), [.tmp 45], none⟩,
    ⟨(some 47), .p .move, [.tmp 3], none⟩,
    ⟨(some 48), .h (.call 14), [.tmp 47], none⟩,
    ⟨(some 13), .p .move, [.tmp 46], none⟩,
    ⟨(some 14), .p .move, [.tmp 48], none⟩])
  (.seq (.reg [⟨(some 49), .p .move, [.tmp 13], none⟩,
    ⟨(some 50), .p .lenStr, [.tmp 49], none⟩,
    ⟨(some 51), .p (.bin .eql), [.tmp 50, .lit (.int .i64 8)], none⟩,
    ⟨(some 52), .p .move, [.tmp 51], none⟩,
    ⟨(some 53), .p .move, [.tmp 13], some (52, true)⟩,
    ⟨(some 54), .p .move, [.tmp 14], some (52, true)⟩,
    ⟨(some 55), .p (.bin .lss), [.tmp 53, .tmp 54], some (52, true)⟩,
    ⟨(some 56), .p .move, [.tmp 2], some (52, true)⟩,
    ⟨(some 57), .p .move, [.tmp 3], some (52, true)⟩,
    ⟨(some 58), .p (.bin .lss), [.tmp 56, .tmp 57], some (52, true)⟩,
    ⟨(some 59), .p (.eq false .bool), [.tmp 55, .tmp 58], some (52, true)⟩,
    ⟨(some 60), .p .pick, [.tmp 52, .tmp 59, .lit (.bool false)], none⟩,
    ⟨(some 61), .p .move, [.tmp 60], none⟩,
    ⟨(some 62), .p .move, [.tmp 13], some (61, true)⟩,
    ⟨(some 63), .p .move, [.tmp 14], some (61, true)⟩,
    ⟨(some 64), .p (.bin .eql), [.tmp 62, .tmp 63], some (61, true)⟩,
    ⟨(some 65), .p .move, [.tmp 2], some (61, true)⟩,
    ⟨(some 66), .p .move, [.tmp 3], some (61, true)⟩,
    ⟨(some 67), .p (.bin .eql), [.tmp 65, .tmp 66], some (61, true)⟩,
    ⟨(some 68), .p (.eq false .bool), [.tmp 64, .tmp 67], some (61, true)⟩,
    ⟨(some 69), .p .pick, [.tmp 61, .tmp 68, .lit (.bool false)], none⟩,
    ⟨(some 70), .p .move, [.tmp 69], none⟩,
    ⟨(some 71), .p .move, [.tmp 10], some (70, true)⟩,
    ⟨(some 72), .p .move, [.tmp 0], some (70, true)⟩,
    ⟨(some 73), .p (.bin .geq), [.tmp 72, .lit (.int .i64 0)], some (70, true)⟩,
    ⟨(some 74), .p .move, [.tmp 73], some (70, true)⟩,
    ⟨(some 75), .p .move, [.tmp 0], some (74, true)⟩,
    ⟨(some 76), .p (.bin .leq), [.tmp 75, .lit (.int .i64 65535)], some (74, true)⟩,
    ⟨(some 77), .p .pick, [.tmp 74, .tmp 76, .lit (.bool false)], some (70, true)⟩,
    ⟨(some 78), .p (.eq false .bool), [.tmp 71, .tmp 77], some (70, true)⟩,
    ⟨(some 79), .p .pick, [.tmp 70, .tmp 78, .lit (.bool false)], none⟩,
    ⟨(some 8), .p .move, [.tmp 79], none⟩])
  .ret))))))), [.tmp 8]⟩
theorem c6 : cFunc Go.Proofs.Try.prog false 4 Go.Proofs.Try.f6 = some sf6 := by kernel_rfl
def ss6 : List Sh := [(.int .i64), (.int .i64), (.int .u64), (.int .u64)]
theorem cs6 : shsOf Go.Proofs.Try.prog 12 Go.Proofs.Try.f6.params.toList = some ss6 := by kernel_rfl

/-- rosary/rosarylaw3.PackNothing -/
def sf7 : SFunc := ⟨1, 62, (.seq (.reg [⟨(some 2), .p .move, [.lit (.bool false)], none⟩])
  (.seq (.seq (.reg [⟨(some 4), .h (.call 9), [], none⟩,
    ⟨(some 5), .p .not, [.tmp 4], none⟩])
  (.cond (.tmp 5) (.seq (.reg [⟨(some 2), .p .move, [.lit (.bool false)], none⟩])
  .ret)
  .skip))
  (.seq (.reg [⟨(some 6), .h (.call 16), [.lit (.str [])], none⟩,
    ⟨(some 3), .p .move, [.tmp 6], none⟩])
  (.seq (.seq (.reg [⟨(some 7), .p .move, [.tmp 3], none⟩,
    ⟨(some 8), .p (.eq false .ptr), [.tmp 7, .lit .nilptr], none⟩,
    ⟨(some 9), .p .move, [.tmp 8], none⟩,
    ⟨(some 10), .p .move, [.tmp 3], some (9, false)⟩,
    ⟨(some 11), .h (.call 24), [.tmp 10], some (9, false)⟩,
    ⟨(some 12), .p .not, [.tmp 11], some (9, false)⟩,
    ⟨(some 13), .p .pick, [.tmp 9, .lit (.bool true), .tmp 12], none⟩,
    ⟨(some 14), .p .move, [.tmp 13], none⟩,
    ⟨(some 15), .p .move, [.tmp 3], some (14, false)⟩,
    ⟨(some 16), .h (.call 23), [.tmp 15], some (14, false)⟩,
    ⟨(some 17), .p .pick, [.tmp 14, .lit (.bool true), .tmp 16], none⟩])
  (.cond (.tmp 17) (.seq (.reg [⟨(some 2), .p .move, [.lit (.bool false)], none⟩])
  .ret)
  .skip))
  (.seq (.seq (.reg [⟨(some 18), .p .move, [.tmp 0], none⟩,
    ⟨(some 19), .p (.bin .and), [.tmp 18, .lit (.int .i64 3)], none⟩])
  (.block 0 (.seq (.reg [⟨(some 21), .p (.bin .eql), [.tmp 19, .lit (.int .i64 0)], none⟩,
    ⟨(some 20), .p .move, [.tmp 21], none⟩])
  (.cond (.tmp 20) (.seq (.reg [⟨(some 22), .p .move, [.tmp 3], none⟩,
    ⟨(some 23), .h (.call 17), [.tmp 22], none⟩,
    ⟨(some 24), .p (.bin .eql), [.tmp 23, .lit (.int .i64 0)], none⟩,
    ⟨(some 25), .p .move, [.tmp 24], none⟩,
    ⟨(some 26), .p .move, [.tmp 3], some (25, true)⟩,
    ⟨(some 27), .h (.call 23), [.tmp 26], some (25, true)⟩,
    ⟨(some 28), .p .pick, [.tmp 25, .tmp 27, .lit (.bool false)], none⟩,
    ⟨(some 29), .p .move, [.tmp 28], none⟩,
    ⟨(some 30), .p .move, [.tmp 3], some (29, true)⟩,
    ⟨(some 31), .h (.call 24), [.tmp 30], some (29, true)⟩,
    ⟨(some 32), .p .not, [.tmp 31], some (29, true)⟩,
    ⟨(some 33), .p .pick, [.tmp 29, .tmp 32, .lit (.bool false)], none⟩,
    ⟨(some 2), .p .move, [.tmp 33], none⟩])
  .ret)
  (.seq (.reg [⟨(some 35), .p (.bin .eql), [.tmp 19, .lit (.int .i64 1)], none⟩,
    ⟨(some 34), .p .move, [.tmp 35], none⟩])
  (.cond (.tmp 34) (.seq (.reg [⟨(some 36), .p .move, [.tmp 3], none⟩,
    ⟨(some 37), .h (.call 19), [.tmp 36], none⟩,
    ⟨(some 38), .p (.bin .eql), [.tmp 37, .lit (.str [])], none⟩,
    ⟨(some 39), .p .move, [.tmp 38], none⟩,
    ⟨(some 40), .p .move, [.tmp 3], some (39, true)⟩,
    ⟨(some 41), .h (.call 23), [.tmp 40], some (39, true)⟩,
    ⟨(some 42), .p .pick, [.tmp 39, .tmp 41, .lit (.bool false)], none⟩,
    ⟨(some 43), .p .move, [.tmp 42], none⟩,
    ⟨(some 44), .p .move, [.tmp 3], some (43, true)⟩,
    ⟨(some 45), .h (.call 24), [.tmp 44], some (43, true)⟩,
    ⟨(some 46), .p .not, [.tmp 45], some (43, true)⟩,
    ⟨(some 47), .p .pick, [.tmp 43, .tmp 46, .lit (.bool false)], none⟩,
    ⟨(some 2), .p .move, [.tmp 47], none⟩])
  .ret)
  (.seq (.reg [⟨(some 49), .p (.bin .eql), [.tmp 19, .lit (.int .i64 2)], none⟩,
    ⟨(some 48), .p .move, [.tmp 49], none⟩])
  (.cond (.tmp 48) (.seq (.reg [⟨(some 50), .p .move, [.tmp 3], none⟩,
    ⟨(some 51), .h (.call 21), [.tmp 50], none⟩,
    ⟨(some 52), .p (.bin .eql), [.tmp 51, .lit (.int .u64 0)], none⟩,
    ⟨(some 53), .p .move, [.tmp 52], none⟩,
    ⟨(some 54), .p .move, [.tmp 3], some (53, true)⟩,
    ⟨(some 55), .h (.call 23), [.tmp 54], some (53, true)⟩,
    ⟨(some 56), .p .pick, [.tmp 53, .tmp 55, .lit (.bool false)], none⟩,
    ⟨(some 57), .p .move, [.tmp 56], none⟩,
    ⟨(some 58), .p .move, [.tmp 3], some (57, true)⟩,
    ⟨(some 59), .h (.call 24), [.tmp 58], some (57, true)⟩,
    ⟨(some 60), .p .not, [.tmp 59], some (57, true)⟩,
    ⟨(some 61), .p .pick, [.tmp 57, .tmp 60, .lit (.bool false)], none⟩,
    ⟨(some 2), .p .move, [.tmp 61], none⟩])
  .ret)
  .skip))))))))
  (.seq (.reg [⟨(some 2), .p .move, [.lit (.bool true)], none⟩])
  .ret)))))), [.tmp 2]⟩
theorem c7 : cFunc Go.Proofs.Try.prog false 1 Go.Proofs.Try.f7 = some sf7 := by kernel_rfl
def ss7 : List Sh := [(.int .i64)]
theorem cs7 : shsOf Go.Proofs.Try.prog 12 Go.Proofs.Try.f7.params.toList = some ss7 := by kernel_rfl

/-- rosary/rosarylaw3.PackLong -/
def sf8 : SFunc := ⟨2, 90, (.seq (.reg [⟨(some 4), .p .move, [.lit (.bool false)], none⟩])
  (.seq (.seq (.reg [⟨(some 14), .p .move, [.tmp 0], none⟩,
    ⟨(some 15), .p (.bin .lss), [.tmp 14, .lit (.int .i64 0)], none⟩,
    ⟨(some 16), .p .move, [.tmp 15], none⟩,
    ⟨(some 17), .p .move, [.tmp 0], some (16, false)⟩,
    ⟨(some 18), .p (.bin .gtr), [.tmp 17, .lit (.int .i64 600)], some (16, false)⟩,
    ⟨(some 19), .p .pick, [.tmp 16, .lit (.bool true), .tmp 18], none⟩,
    ⟨(some 20), .p .move, [.tmp 19], none⟩,
    ⟨(some 21), .h (.call 9), [], some (20, false)⟩,
    ⟨(some 22), .p .not, [.tmp 21], some (20, false)⟩,
    ⟨(some 23), .p .pick, [.tmp 20, .lit (.bool true), .tmp 22], none⟩])
  (.cond (.tmp 23) (.seq (.reg [⟨(some 24), .h (.call 9), [], none⟩,
    ⟨(some 4), .p .move, [.tmp 24], none⟩])
  .ret)
  .skip))
  (.seq (.reg [⟨(some 25), .p .move, [.tmp 0], none⟩,
    ⟨(some 26), .a (.makeSlice [(.int .u8 0)]), [.tmp 25, .tmp 25], none⟩,
    ⟨(some 5), .p .move, [.tmp 26], none⟩])
  (.seq (.seq (.reg [⟨(some 27), .p .move, [.tmp 5], none⟩,
    ⟨(some 28), .p .lenSl, [.tmp 27], none⟩,
    ⟨(some 29), .p .move, [.lit (.int .i64 0)], none⟩])
  (.block 0 (.loop [0, 1, 5, 28, 29] (.seq (.reg [⟨(some 30), .p (.bin .lss), [.tmp 29, .tmp 28], none⟩])
  (.seq (.cond (.tmp 30) .skip
  (.exit 0))
  (.seq (.block 1 (.seq (.reg [⟨(some 31), .p .move, [.tmp 29], none⟩,
    ⟨(some 6), .p .move, [.tmp 31], none⟩])
  (.reg [⟨(some 32), .p .move, [.tmp 5], none⟩,
    ⟨(some 33), .p .move, [.tmp 6], none⟩,
    ⟨(some 34), .p .move, [.tmp 1], none⟩,
    ⟨(some 35), .p (.indexAddr 1), [.tmp 32, .tmp 33], none⟩,
    ⟨none, .h (.store 1), [.tmp 35, .tmp 34], none⟩])))
  (.reg [⟨(some 36), .p (.bin .add), [.tmp 29, .lit (.int .i64 1)], none⟩,
    ⟨(some 29), .p .move, [.tmp 36], none⟩])))))))
  (.seq (.reg [⟨(some 38), .p .move, [.tmp 5], none⟩,
    ⟨(some 39), .r .toStr, [.tmp 38], none⟩,
    ⟨(some 40), .h (.call 11), [.tmp 39], none⟩,
    ⟨(some 37), .p .move, [.tmp 40], none⟩,
    ⟨(some 41), .p (.extract 0), [.tmp 37], none⟩,
    ⟨(some 42), .p (.extract 1), [.tmp 37], none⟩,
    ⟨(some 7), .p .move, [.tmp 41], none⟩,
    ⟨(some 8), .p .move, [.tmp 42], none⟩])
  (.seq (.reg [⟨(some 44), .h (.call 10), [.lit (.int .i64 65535)], none⟩,
    ⟨(some 43), .p .move, [.tmp 44], none⟩,
    ⟨(some 45), .p (.extract 0), [.tmp 43], none⟩,
    ⟨(some 46), .p (.extract 1), [.tmp 43], none⟩,
    ⟨(some 9), .p .move, [.tmp 45], none⟩,
    ⟨(some 10), .p .move, [.tmp 46], none⟩])
  (.seq (.reg [⟨(some 48), .h (.call 10), [.lit (.int .i64 65536)], none⟩,
    ⟨(some 47), .p .move, [.tmp 48], none⟩,
    ⟨(some 49), .p (.extract 0), [.tmp 47], none⟩,
    ⟨(some 50), .p (.extract 1), [.tmp 47], none⟩,
    ⟨(some 11), .p .move, [.tmp 49], none⟩,
    ⟨(some 12), .p .move, [.tmp 50], none⟩])
  (.seq (.reg [⟨(some 51), .p .move, [.tmp 7], none⟩,
    ⟨(some 52), .h (.call 16), [.tmp 51], none⟩,
    ⟨(some 13), .p .move, [.tmp 52], none⟩])
  (.seq (.dreg [⟨[⟨(some 53), .p .move, [.tmp 8], none⟩,
    ⟨(some 54), .p .move, [.tmp 0], none⟩,
    ⟨(some 55), .p (.bin .leq), [.tmp 54, .lit (.int .i64 255)], none⟩,
    ⟨(some 56), .p (.eq false .bool), [.tmp 53, .tmp 55], none⟩,
    ⟨(some 57), .p .move, [.tmp 56], none⟩,
    ⟨(some 58), .p .move, [.tmp 8], some (57, true)⟩,
    ⟨(some 59), .p .not, [.tmp 58], some (57, true)⟩,
    ⟨(some 60), .p .move, [.tmp 59], some (57, true)⟩,
    ⟨(some 61), .p .move, [.tmp 7], some (60, false)⟩,
    ⟨(some 62), .p .lenStr, [.tmp 61], some (60, false)⟩,
    ⟨(some 63), .p .move, [.tmp 0], some (60, false)⟩,
    ⟨(some 64), .p (.bin .add), [.tmp 63, .lit (.int .i64 1)], some (60, false)⟩,
    ⟨(some 65), .p (.bin .eql), [.tmp 62, .tmp 64], some (60, false)⟩,
    ⟨(some 66), .p .move, [.tmp 65], some (60, false)⟩,
    ⟨(some 67), .p .move, [.tmp 13], some (66, true)⟩,
    ⟨(some 68), .p (.eq true .ptr), [.tmp 67, .lit .nilptr], some (66, true)⟩,
    ⟨(some 69), .p .pick, [.tmp 66, .tmp 68, .lit (.bool false)], some (60, false)⟩,
    ⟨(some 70), .p .move, [.tmp 69], some (60, false)⟩,
    ⟨(some 71), .p .move, [.tmp 13], some (70, true)⟩,
    ⟨(some 73), .p .move, [.tmp 5], some (70, true)⟩,
    ⟨(some 74), .r .toStr, [.tmp 73], some (70, true)⟩], [], some ⟨(some 72), .h (.call 19), [.tmp 71], some (70, true)⟩⟩,
   ⟨[⟨(some 75), .p (.bin .eql), [.tmp 72, .tmp 74], some (70, true)⟩,
    ⟨(some 76), .p .pick, [.tmp 70, .tmp 75, .lit (.bool false)], some (60, false)⟩,
    ⟨(some 77), .p .move, [.tmp 76], some (60, false)⟩,
    ⟨(some 78), .p .move, [.tmp 13], some (77, true)⟩], [⟨(some 74), .r .toStr, [.tmp 73], some (70, true)⟩], some ⟨(some 79), .h (.call 24), [.tmp 78], some (77, true)⟩⟩,
   ⟨[⟨(some 80), .p .pick, [.tmp 77, .tmp 79, .lit (.bool false)], some (60, false)⟩,
    ⟨(some 81), .p .pick, [.tmp 60, .lit (.bool true), .tmp 80], some (57, true)⟩,
    ⟨(some 82), .p .pick, [.tmp 57, .tmp 81, .lit (.bool false)], none⟩,
    ⟨(some 83), .p .move, [.tmp 82], none⟩,
    ⟨(some 84), .p .move, [.tmp 10], some (83, true)⟩,
    ⟨(some 85), .p .pick, [.tmp 83, .tmp 84, .lit (.bool false)], none⟩,
    ⟨(some 86), .p .move, [.tmp 85], none⟩,
    ⟨(some 87), .p .move, [.tmp 12], some (86, true)⟩,
    ⟨(some 88), .p .not, [.tmp 87], some (86, true)⟩,
    ⟨(some 89), .p .pick, [.tmp 86, .tmp 88, .lit (.bool false)], none⟩,
    ⟨(some 4), .p .move, [.tmp 89], none⟩], [], none⟩])
  .ret))))))))), [.tmp 4]⟩
theorem c8 : cFunc Go.Proofs.Try.prog false 2 Go.Proofs.Try.f8 = some sf8 := by kernel_rfl
def ss8 : List Sh := [(.int .i64), (.int .u8)]
theorem cs8 : shsOf Go.Proofs.Try.prog 12 Go.Proofs.Try.f8.params.toList = some ss8 := by kernel_rfl

/-- rosary/rosarylaw3.alive -/
def sf9 : SFunc := ⟨0, 51, (.seq (.reg [⟨(some 0), .p .move, [.lit (.bool false)], none⟩])
  (.seq (.reg [⟨(some 7), .h (.call 10), [.lit (.int .i64 258)], none⟩,
    ⟨(some 6), .p .move, [.tmp 7], none⟩,
    ⟨(some 8), .p (.extract 0), [.tmp 6], none⟩,
    ⟨(some 9), .p (.extract 1), [.tmp 6], none⟩,
    ⟨(some 1), .p .move, [.tmp 8], none⟩,
    ⟨(some 2), .p .move, [.tmp 9], none⟩])
  (.seq (.reg [⟨(some 11), .h (.call 11), [.lit (.str [97, 98])], none⟩,
    ⟨(some 10), .p .move, [.tmp 11], none⟩,
    ⟨(some 12), .p (.extract 0), [.tmp 10], none⟩,
    ⟨(some 13), .p (.extract 1), [.tmp 10], none⟩,
    ⟨(some 3), .p .move, [.tmp 12], none⟩,
    ⟨(some 4), .p .move, [.tmp 13], none⟩])
  (.seq (.reg [⟨(some 14), .p .move, [.tmp 1], none⟩,
    ⟨(some 15), .p .move, [.tmp 3], none⟩,
    ⟨(some 16), .p (.bin .add), [.tmp 14, .tmp 15], none⟩,
    ⟨(some 17), .h (.call 14), [.lit (.int .u64 7)], none⟩,
    ⟨(some 18), .p (.bin .add), [.tmp 16, .tmp 17], none⟩,
    ⟨(some 19), .h (.call 16), [.tmp 18], none⟩,
    ⟨(some 5), .p .move, [.tmp 19], none⟩])
  (.seq (.reg [⟨(some 20), .p .move, [.tmp 2], none⟩,
    ⟨(some 21), .p .move, [.tmp 20], none⟩,
    ⟨(some 22), .p .move, [.tmp 4], some (21, true)⟩,
    ⟨(some 23), .p .pick, [.tmp 21, .tmp 22, .lit (.bool false)], none⟩,
    ⟨(some 24), .p .move, [.tmp 23], none⟩,
    ⟨(some 25), .p .move, [.tmp 1], some (24, true)⟩,
    ⟨(some 26), .p (.bin .eql), [.tmp 25, .lit (.str [1, 2])], some (24, true)⟩,
    ⟨(some 27), .p .pick, [.tmp 24, .tmp 26, .lit (.bool false)], none⟩,
    ⟨(some 28), .p .move, [.tmp 27], none⟩,
    ⟨(some 29), .p .move, [.tmp 5], some (28, true)⟩,
    ⟨(some 30), .p (.eq true .ptr), [.tmp 29, .lit .nilptr], some (28, true)⟩,
    ⟨(some 31), .p .pick, [.tmp 28, .tmp 30, .lit (.bool false)], none⟩,
    ⟨(some 32), .p .move, [.tmp 31], none⟩,
    ⟨(some 33), .p .move, [.tmp 5], some (32, true)⟩,
    ⟨(some 34), .h (.call 17), [.tmp 33], some (32, true)⟩,
    ⟨(some 35), .p (.bin .eql), [.tmp 34, .lit (.int .i64 258)], some (32, true)⟩,
    ⟨(some 36), .p .pick, [.tmp 32, .tmp 35, .lit (.bool false)], none⟩,
    ⟨(some 37), .p .move, [.tmp 36], none⟩,
    ⟨(some 38), .p .move, [.tmp 5], some (37, true)⟩,
    ⟨(some 39), .h (.call 19), [.tmp 38], some (37, true)⟩,
    ⟨(some 40), .p (.bin .eql), [.tmp 39, .lit (.str [97, 98])], some (37, true)⟩,
    ⟨(some 41), .p .pick, [.tmp 37, .tmp 40, .lit (.bool false)], none⟩,
    ⟨(some 42), .p .move, [.tmp 41], none⟩,
    ⟨(some 43), .p .move, [.tmp 5], some (42, true)⟩,
    ⟨(some 44), .h (.call 21), [.tmp 43], some (42, true)⟩,
    ⟨(some 45), .p (.bin .eql), [.tmp 44, .lit (.int .u64 7)], some (42, true)⟩,
    ⟨(some 46), .p .pick, [.tmp 42, .tmp 45, .lit (.bool false)], none⟩,
    ⟨(some 47), .p .move, [.tmp 46], none⟩,
    ⟨(some 48), .p .move, [.tmp 5], some (47, true)⟩,
    ⟨(some 49), .h (.call 24), [.tmp 48], some (47, true)⟩,
    ⟨(some 50), .p .pick, [.tmp 47, .tmp 49, .lit (.bool false)], none⟩,
    ⟨(some 0), .p .move, [.tmp 50], none⟩])
  .ret))))), [.tmp 0]⟩
theorem c9 : cFunc Go.Proofs.Try.prog false 0 Go.Proofs.Try.f9 = some sf9 := by kernel_rfl
def ss9 : List Sh := []
theorem cs9 : shsOf Go.Proofs.Try.prog 12 Go.Proofs.Try.f9.params.toList = some ss9 := by kernel_rfl

/-- rosary/pack.Num -/
def sf10 : SFunc := ⟨1, 13, (.seq (.reg [⟨(some 2), .p .move, [.lit (.str [])], none⟩,
    ⟨(some 3), .p .move, [.lit (.bool false)], none⟩])
  (.seq (.seq (.reg [⟨(some 4), .p .move, [.tmp 0], none⟩,
    ⟨(some 5), .p (.bin .lss), [.tmp 4, .lit (.int .i64 0)], none⟩,
    ⟨(some 6), .p .move, [.tmp 5], none⟩,
    ⟨(some 7), .p .move, [.tmp 0], some (6, false)⟩,
    ⟨(some 8), .p (.bin .gtr), [.tmp 7, .lit (.int .i64 65535)], some (6, false)⟩,
    ⟨(some 9), .p .pick, [.tmp 6, .lit (.bool true), .tmp 8], none⟩])
  (.cond (.tmp 9) (.seq (.reg [⟨(some 2), .p .move, [.lit (.str [])], none⟩,
    ⟨(some 3), .p .move, [.lit (.bool false)], none⟩])
  .ret)
  .skip))
  (.seq (.reg [⟨(some 10), .p .move, [.tmp 0], none⟩,
    ⟨(some 11), .p (.convInt .u64), [.tmp 10], none⟩,
    ⟨(some 12), .h (.call 25), [.tmp 11, .lit (.int .i64 2)], none⟩,
    ⟨(some 2), .p .move, [.tmp 12], none⟩,
    ⟨(some 3), .p .move, [.lit (.bool true)], none⟩])
  .ret))), [.tmp 2, .tmp 3]⟩
theorem c10 : cFunc Go.Proofs.Try.prog false 1 Go.Proofs.Try.f10 = some sf10 := by kernel_rfl

/-- rosary/pack.Text -/
def sf11 : SFunc := ⟨1, 13, (.seq (.reg [⟨(some 2), .p .move, [.lit (.str [])], none⟩,
    ⟨(some 3), .p .move, [.lit (.bool false)], none⟩])
  (.seq (.seq (.reg [⟨(some 4), .p .move, [.tmp 0], none⟩,
    ⟨(some 5), .p .lenStr, [.tmp 4], none⟩,
    ⟨(some 6), .p (.bin .gtr), [.tmp 5, .lit (.int .i64 255)], none⟩])
  (.cond (.tmp 6) (.seq (.reg [⟨(some 2), .p .move, [.lit (.str [])], none⟩,
    ⟨(some 3), .p .move, [.lit (.bool false)], none⟩])
  .ret)
  .skip))
  (.seq (.reg [⟨(some 7), .p .move, [.tmp 0], none⟩,
    ⟨(some 8), .p .lenStr, [.tmp 7], none⟩,
    ⟨(some 9), .p (.convInt .u64), [.tmp 8], none⟩,
    ⟨(some 10), .h (.call 25), [.tmp 9, .lit (.int .i64 1)], none⟩,
    ⟨(some 11), .p .move, [.tmp 0], none⟩,
    ⟨(some 12), .p (.bin .add), [.tmp 10, .tmp 11], none⟩,
    ⟨(some 2), .p .move, [.tmp 12], none⟩,
    ⟨(some 3), .p .move, [.lit (.bool true)], none⟩])
  .ret))), [.tmp 2, .tmp 3]⟩
theorem c11 : cFunc Go.Proofs.Try.prog false 1 Go.Proofs.Try.f11 = some sf11 := by kernel_rfl

/-- rosary/rosaryref1.Num -/
def sf12 : SFunc := ⟨1, 10, (.seq (.reg [⟨(some 2), .p .move, [.lit (.str [])], none⟩])
  (.seq (.reg [⟨(some 3), .p .move, [.tmp 0], none⟩,
    ⟨(some 4), .p (.bin .quo), [.tmp 3, .lit (.int .i64 256)], none⟩,
    ⟨(some 5), .p (.convInt .u8), [.tmp 4], none⟩,
    ⟨(some 6), .p .move, [.tmp 0], none⟩,
    ⟨(some 7), .p (.convInt .u8), [.tmp 6], none⟩,
    ⟨(some 8), .a (.buildSlice 1 2 [(.int .u8 0)] [0, 1]), [.tmp 5, .tmp 7], none⟩,
    ⟨(some 9), .r .toStr, [.tmp 8], none⟩,
    ⟨(some 2), .p .move, [.tmp 9], none⟩])
  .ret)), [.tmp 2]⟩
theorem c12 : cFunc Go.Proofs.Try.prog false 1 Go.Proofs.Try.f12 = some sf12 := by kernel_rfl

/-- rosary/rosaryref1.Text -/
def sf13 : SFunc := ⟨1, 10, (.seq (.reg [⟨(some 2), .p .move, [.lit (.str [])], none⟩])
  (.seq (.reg [⟨(some 3), .p .move, [.tmp 0], none⟩,
    ⟨(some 4), .p .lenStr, [.tmp 3], none⟩,
    ⟨(some 5), .p (.convInt .u8), [.tmp 4], none⟩,
    ⟨(some 6), .a (.buildSlice 1 1 [(.int .u8 0)] [0]), [.tmp 5], none⟩,
    ⟨(some 7), .r .toStr, [.tmp 6], none⟩,
    ⟨(some 8), .p .move, [.tmp 0], none⟩,
    ⟨(some 9), .p (.bin .add), [.tmp 7, .tmp 8], none⟩,
    ⟨(some 2), .p .move, [.tmp 9], none⟩])
  .ret)), [.tmp 2]⟩
theorem c13 : cFunc Go.Proofs.Try.prog false 1 Go.Proofs.Try.f13 = some sf13 := by kernel_rfl

/-- rosary/pack.Wide -/
def sf14 : SFunc := ⟨1, 5, (.seq (.reg [⟨(some 2), .p .move, [.lit (.str [])], none⟩])
  (.seq (.reg [⟨(some 3), .p .move, [.tmp 0], none⟩,
    ⟨(some 4), .h (.call 25), [.tmp 3, .lit (.int .i64 8)], none⟩,
    ⟨(some 2), .p .move, [.tmp 4], none⟩])
  .ret)), [.tmp 2]⟩
theorem c14 : cFunc Go.Proofs.Try.prog false 1 Go.Proofs.Try.f14 = some sf14 := by kernel_rfl

/-- rosary/rosaryref1.Wide -/
def sf15 : SFunc := ⟨1, 20, (.seq (.reg [⟨(some 2), .p .move, [.lit (.str [])], none⟩])
  (.seq (.reg [⟨(some 5), .a (.makeSlice [(.int .u8 0)]), [.lit (.int .i64 8), .lit (.int .i64 8)], none⟩,
    ⟨(some 3), .p .move, [.tmp 5], none⟩])
  (.seq (.seq (.reg [⟨(some 4), .p .move, [.lit (.int .i64 7)], none⟩])
  (.block 0 (.loop [0, 3, 4] (.seq (.seq (.reg [⟨(some 6), .p .move, [.tmp 4], none⟩,
    ⟨(some 7), .p (.bin .geq), [.tmp 6, .lit (.int .i64 0)], none⟩])
  (.cond (.tmp 7) .skip
  (.exit 0)))
  (.seq (.block 1 (.seq (.reg [⟨(some 10), .p .move, [.tmp 3], none⟩,
    ⟨(some 11), .p .move, [.tmp 4], none⟩,
    ⟨(some 12), .p .move, [.tmp 0], none⟩,
    ⟨(some 13), .p (.bin .and), [.tmp 12, .lit (.int .u64 255)], none⟩,
    ⟨(some 14), .p (.convInt .u8), [.tmp 13], none⟩,
    ⟨(some 15), .p (.indexAddr 1), [.tmp 10, .tmp 11], none⟩,
    ⟨none, .h (.store 1), [.tmp 15, .tmp 14], none⟩])
  (.reg [⟨(some 16), .p .move, [.tmp 0], none⟩,
    ⟨(some 17), .p (.bin .quo), [.tmp 16, .lit (.int .u64 256)], none⟩,
    ⟨(some 0), .p .move, [.tmp 17], none⟩])))
  (.reg [⟨(some 8), .p .move, [.tmp 4], none⟩,
    ⟨(some 9), .p (.bin .sub), [.tmp 8, .lit (.int .i64 1)], none⟩,
    ⟨(some 4), .p .move, [.tmp 9], none⟩]))))))
  (.seq (.reg [⟨(some 18), .p .move, [.tmp 3], none⟩,
    ⟨(some 19), .r .toStr, [.tmp 18], none⟩,
    ⟨(some 2), .p .move, [.tmp 19], none⟩])
  .ret)))), [.tmp 2]⟩
theorem c15 : cFunc Go.Proofs.Try.prog false 1 Go.Proofs.Try.f15 = some sf15 := by kernel_rfl

/-- rosary/pack.From -/
def sf16 : SFunc := ⟨1, 6, (.seq (.reg [⟨(some 2), .p .move, [.lit .nilptr], none⟩])
  (.seq (.reg [⟨(some 3), .p .move, [.tmp 0], none⟩,
    ⟨(some 4), .p (.build [(.str []), (.bool false)] [(0, 1)]), [.tmp 3], none⟩,
    ⟨(some 5), .a .box, [.tmp 4], none⟩,
    ⟨(some 2), .p .move, [.tmp 5], none⟩])
  .ret)), [.tmp 2]⟩
theorem c16 : cFunc Go.Proofs.Try.prog false 1 Go.Proofs.Try.f16 = some sf16 := by kernel_rfl

/-- (*rosary/pack.Reader).Num -/
def sf17 : SFunc := ⟨1, 6, (.seq (.reg [⟨(some 2), .p .move, [.lit (.int .i64 0)], none⟩])
  (.seq (.reg [⟨(some 3), .p .move, [.tmp 0], none⟩,
    ⟨(some 4), .h (.call 26), [.tmp 3, .lit (.int .i64 2)], none⟩,
    ⟨(some 5), .p (.convInt .i64), [.tmp 4], none⟩,
    ⟨(some 2), .p .move, [.tmp 5], none⟩])
  .ret)), [.tmp 2]⟩
theorem c17 : cFunc Go.Proofs.Try.prog false 1 Go.Proofs.Try.f17 = some sf17 := by kernel_rfl

/-- (*rosary/rosaryref1.Reader).Num -/
def sf18 : SFunc := ⟨1, 14, (.seq (.reg [⟨(some 2), .p .move, [.lit (.int .i64 0)], none⟩])
  (.seq (.reg [⟨(some 4), .p .move, [.tmp 0], none⟩,
    ⟨(some 5), .h (.call 27), [.tmp 4, .lit (.int .i64 2)], none⟩,
    ⟨(some 3), .p .move, [.tmp 5], none⟩])
  (.seq (.dreg [⟨[⟨(some 6), .p .move, [.tmp 3], none⟩,
    ⟨(some 7), .p .indexStr, [.tmp 6, .lit (.int .i64 0)], none⟩,
    ⟨(some 8), .p (.convInt .i64), [.tmp 7], none⟩,
    ⟨(some 9), .p (.bin .mul), [.tmp 8, .lit (.int .i64 256)], none⟩,
    ⟨(some 10), .p .move, [.tmp 3], none⟩,
    ⟨(some 11), .p .indexStr, [.tmp 10, .lit (.int .i64 1)], none⟩,
    ⟨(some 12), .p (.convInt .i64), [.tmp 11], none⟩,
    ⟨(some 13), .p (.bin .add), [.tmp 9, .tmp 12], none⟩,
    ⟨(some 2), .p .move, [.tmp 13], none⟩], [], none⟩])
  .ret))), [.tmp 2]⟩
theorem c18 : cFunc Go.Proofs.Try.prog false 1 Go.Proofs.Try.f18 = some sf18 := by kernel_rfl

/-- (*rosary/pack.Reader).Text -/
def sf19 : SFunc := ⟨1, 8, (.seq (.reg [⟨(some 2), .p .move, [.lit (.str [])], none⟩])
  (.seq (.reg [⟨(some 3), .p .move, [.tmp 0], none⟩,
    ⟨(some 4), .p .move, [.tmp 0], none⟩,
    ⟨(some 5), .h (.call 26), [.tmp 4, .lit (.int .i64 1)], none⟩,
    ⟨(some 6), .p (.convInt .i64), [.tmp 5], none⟩,
    ⟨(some 7), .h (.call 28), [.tmp 3, .tmp 6], none⟩,
    ⟨(some 2), .p .move, [.tmp 7], none⟩])
  .ret)), [.tmp 2]⟩
theorem c19 : cFunc Go.Proofs.Try.prog false 1 Go.Proofs.Try.f19 = some sf19 := by kernel_rfl

/-- (*rosary/rosaryref1.Reader).Text -/
def sf20 : SFunc := ⟨1, 17, (.seq (.reg [⟨(some 2), .p .move, [.lit (.str [])], none⟩])
  (.seq (.reg [⟨(some 5), .p .move, [.tmp 0], none⟩,
    ⟨(some 6), .h (.call 27), [.tmp 5, .lit (.int .i64 1)], none⟩,
    ⟨(some 7), .p .indexStr, [.tmp 6, .lit (.int .i64 0)], none⟩,
    ⟨(some 8), .p (.convInt .i64), [.tmp 7], none⟩,
    ⟨(some 3), .p .move, [.tmp 8], none⟩])
  (.seq (.reg [⟨(some 9), .p .move, [.tmp 0], none⟩,
    ⟨(some 10), .p .move, [.tmp 3], none⟩,
    ⟨(some 11), .h (.call 27), [.tmp 9, .tmp 10], none⟩,
    ⟨(some 4), .p .move, [.tmp 11], none⟩])
  (.seq (.seq (.reg [⟨(some 12), .p .move, [.tmp 0], none⟩,
    ⟨(some 13), .p .nilCheck, [.tmp 12], none⟩,
    ⟨(some 14), .p (.fieldAddr 1), [.tmp 13], none⟩,
    ⟨(some 15), .r (.load none), [.tmp 14], none⟩])
  (.cond (.tmp 15) (.seq (.reg [⟨(some 2), .p .move, [.lit (.str [])], none⟩])
  .ret)
  .skip))
  (.seq (.reg [⟨(some 16), .p .move, [.tmp 4], none⟩,
    ⟨(some 2), .p .move, [.tmp 16], none⟩])
  .ret))))), [.tmp 2]⟩
theorem c20 : cFunc Go.Proofs.Try.prog false 1 Go.Proofs.Try.f20 = some sf20 := by kernel_rfl

/-- (*rosary/pack.Reader).Wide -/
def sf21 : SFunc := ⟨1, 5, (.seq (.reg [⟨(some 2), .p .move, [.lit (.int .u64 0)], none⟩])
  (.seq (.reg [⟨(some 3), .p .move, [.tmp 0], none⟩,
    ⟨(some 4), .h (.call 26), [.tmp 3, .lit (.int .i64 8)], none⟩,
    ⟨(some 2), .p .move, [.tmp 4], none⟩])
  .ret)), [.tmp 2]⟩
theorem c21 : cFunc Go.Proofs.Try.prog false 1 Go.Proofs.Try.f21 = some sf21 := by kernel_rfl

/-- (*rosary/rosaryref1.Reader).Wide -/
def sf22 : SFunc := ⟨1, 12, (.seq (.reg [⟨(some 2), .p .move, [.lit (.int .u64 0)], none⟩])
  (.seq (.reg [⟨(some 4), .p .move, [.tmp 0], none⟩,
    ⟨(some 5), .h (.call 27), [.tmp 4, .lit (.int .i64 8)], none⟩,
    ⟨(some 3), .p .move, [.tmp 5], none⟩])
  (.seq (.seq (.reg [⟨(some 6), .p .move, [.tmp 0], none⟩,
    ⟨(some 7), .p .nilCheck, [.tmp 6], none⟩,
    ⟨(some 8), .p (.fieldAddr 1), [.tmp 7], none⟩,
    ⟨(some 9), .r (.load none), [.tmp 8], none⟩])
  (.cond (.tmp 9) (.seq (.reg [⟨(some 2), .p .move, [.lit (.int .u64 0)], none⟩])
  .ret)
  .skip))
  (.seq (.reg [⟨(some 10), .p .move, [.tmp 3], none⟩,
    ⟨(some 11), .h (.call 29), [.tmp 10], none⟩,
    ⟨(some 2), .p .move, [.tmp 11], none⟩])
  .ret)))), [.tmp 2]⟩
theorem c22 : cFunc Go.Proofs.Try.prog false 1 Go.Proofs.Try.f22 = some sf22 := by kernel_rfl

/-- (*rosary/pack.Reader).Bad -/
def sf23 : SFunc := ⟨1, 11, (.seq (.reg [⟨(some 2), .p .move, [.lit (.bool false)], none⟩])
  (.seq (.reg [⟨(some 3), .p .move, [.tmp 0], none⟩,
    ⟨(some 4), .p (.eq false .ptr), [.tmp 3, .lit .nilptr], none⟩,
    ⟨(some 5), .p .move, [.tmp 4], none⟩,
    ⟨(some 6), .p .move, [.tmp 0], some (5, false)⟩,
    ⟨(some 7), .p .nilCheck, [.tmp 6], some (5, false)⟩,
    ⟨(some 8), .p (.fieldAddr 1), [.tmp 7], some (5, false)⟩,
    ⟨(some 9), .r (.load none), [.tmp 8], some (5, false)⟩,
    ⟨(some 10), .p .pick, [.tmp 5, .lit (.bool true), .tmp 9], none⟩,
    ⟨(some 2), .p .move, [.tmp 10], none⟩])
  .ret)), [.tmp 2]⟩
theorem c23 : cFunc Go.Proofs.Try.prog false 1 Go.Proofs.Try.f23 = some sf23 := by kernel_rfl

/-- (*rosary/pack.Reader).End -/
def sf24 : SFunc := ⟨1, 13, (.seq (.reg [⟨(some 2), .p .move, [.lit (.bool false)], none⟩])
  (.seq (.reg [⟨(some 3), .p .move, [.tmp 0], none⟩,
    ⟨(some 4), .h (.call 23), [.tmp 3], none⟩,
    ⟨(some 5), .p .not, [.tmp 4], none⟩,
    ⟨(some 6), .p .move, [.tmp 5], none⟩,
    ⟨(some 7), .p .move, [.tmp 0], some (6, true)⟩,
    ⟨(some 8), .p .nilCheck, [.tmp 7], some (6, true)⟩,
    ⟨(some 9), .p (.fieldAddr 0), [.tmp 8], some (6, true)⟩,
    ⟨(some 10), .r (.load none), [.tmp 9], some (6, true)⟩,
    ⟨(some 11), .p (.bin .eql), [.tmp 10, .lit (.str [])], some (6, true)⟩,
    ⟨(some 12), .p .pick, [.tmp 6, .tmp 11, .lit (.bool false)], none⟩,
    ⟨(some 2), .p .move, [.tmp 12], none⟩])
  .ret)), [.tmp 2]⟩
theorem c24 : cFunc Go.Proofs.Try.prog false 1 Go.Proofs.Try.f24 = some sf24 := by kernel_rfl

/-- rosary/pack.big -/
def sf25 : SFunc := ⟨2, 28, (.seq (.reg [⟨(some 4), .p .move, [.lit (.str [])], none⟩])
  (.seq (.reg [⟨(some 7), .p .move, [.tmp 1], none⟩,
    ⟨(some 8), .a (.makeSlice [(.int .u8 0)]), [.tmp 7, .tmp 7], none⟩,
    ⟨(some 5), .p .move, [.tmp 8], none⟩])
  (.seq (.seq (.reg [⟨(some 9), .p .move, [.tmp 5], none⟩,
    ⟨(some 10), .p .lenSl, [.tmp 9], none⟩,
    ⟨(some 11), .p .move, [.lit (.int .i64 0)], none⟩])
  (.block 0 (.loop [0, 1, 5, 10, 11] (.seq (.reg [⟨(some 12), .p (.bin .lss), [.tmp 11, .tmp 10], none⟩])
  (.seq (.cond (.tmp 12) .skip
  (.exit 0))
  (.seq (.block 1 (.seq (.reg [⟨(some 13), .p .move, [.tmp 11], none⟩,
    ⟨(some 6), .p .move, [.tmp 13], none⟩])
  (.reg [⟨(some 14), .p .move, [.tmp 5], none⟩,
    ⟨(some 15), .p .move, [.tmp 1], none⟩,
    ⟨(some 16), .p (.bin .sub), [.tmp 15, .lit (.int .i64 1)], none⟩,
    ⟨(some 17), .p .move, [.tmp 6], none⟩,
    ⟨(some 18), .p (.bin .sub), [.tmp 16, .tmp 17], none⟩,
    ⟨(some 19), .p .move, [.tmp 0], none⟩,
    ⟨(some 20), .p .move, [.tmp 6], none⟩,
    ⟨(some 21), .p (.bin .mul), [.lit (.int .i64 8), .tmp 20], none⟩,
    ⟨(some 22), .p (.bin .shr), [.tmp 19, .tmp 21], none⟩,
    ⟨(some 23), .p (.convInt .u8), [.tmp 22], none⟩,
    ⟨(some 24), .p (.indexAddr 1), [.tmp 14, .tmp 18], none⟩,
    ⟨none, .h (.store 1), [.tmp 24, .tmp 23], none⟩])))
  (.reg [⟨(some 25), .p (.bin .add), [.tmp 11, .lit (.int .i64 1)], none⟩,
    ⟨(some 11), .p .move, [.tmp 25], none⟩])))))))
  (.seq (.reg [⟨(some 26), .p .move, [.tmp 5], none⟩,
    ⟨(some 27), .r .toStr, [.tmp 26], none⟩,
    ⟨(some 4), .p .move, [.tmp 27], none⟩])
  .ret)))), [.tmp 4]⟩
theorem c25 : cFunc Go.Proofs.Try.prog false 2 Go.Proofs.Try.f25 = some sf25 := by kernel_rfl

/-- (*rosary/pack.Reader).number -/
def sf26 : SFunc := ⟨2, 25, (.seq (.reg [⟨(some 4), .p .move, [.lit (.int .u64 0)], none⟩])
  (.scope (.seq (.reg [⟨(some 5), .p .move, [.lit (.int .u64 0)], none⟩])
  (.seq (.reg [⟨(some 8), .p .move, [.tmp 0], none⟩,
    ⟨(some 9), .p .move, [.tmp 1], none⟩,
    ⟨(some 10), .h (.call 28), [.tmp 8, .tmp 9], none⟩,
    ⟨(some 6), .p .move, [.tmp 10], none⟩])
  (.seq .skip
  (.seq (.seq (.reg [⟨(some 7), .p .move, [.lit (.int .i64 0)], none⟩])
  (.block 0 (.loop [5, 6, 7] (.seq (.block 1 (.seq (.seq (.reg [⟨(some 13), .p .move, [.tmp 7], none⟩,
    ⟨(some 14), .p .move, [.tmp 6], none⟩,
    ⟨(some 15), .p .lenStr, [.tmp 14], none⟩,
    ⟨(some 16), .p (.bin .geq), [.tmp 13, .tmp 15], none⟩])
  (.cond (.tmp 16) (.exit 0)
  .skip))
  (.reg [⟨(some 17), .p .move, [.tmp 5], none⟩,
    ⟨(some 18), .p (.bin .shl), [.tmp 17, .lit (.int .u64 8)], none⟩,
    ⟨(some 19), .p .move, [.tmp 6], none⟩,
    ⟨(some 20), .p .move, [.tmp 7], none⟩,
    ⟨(some 21), .p .indexStr, [.tmp 19, .tmp 20], none⟩,
    ⟨(some 22), .p (.convInt .u64), [.tmp 21], none⟩,
    ⟨(some 23), .p (.bin .or), [.tmp 18, .tmp 22], none⟩,
    ⟨(some 5), .p .move, [.tmp 23], none⟩])))
  (.reg [⟨(some 11), .p .move, [.tmp 7], none⟩,
    ⟨(some 12), .p (.bin .add), [.tmp 11, .lit (.int .i64 1)], none⟩,
    ⟨(some 7), .p .move, [.tmp 12], none⟩])))))
  (.seq (.reg [⟨(some 24), .p .move, [.tmp 5], none⟩,
    ⟨(some 4), .p .move, [.tmp 24], none⟩])
  .ret))))))), [.tmp 4]⟩
theorem c26 : cFunc Go.Proofs.Try.prog false 2 Go.Proofs.Try.f26 = some sf26 := by kernel_rfl

/-- (*rosary/rosaryref1.Reader).take -/
def sf27 : SFunc := ⟨2, 41, (.seq (.reg [⟨(some 4), .p .move, [.lit (.str [])], none⟩])
  (.seq (.seq (.reg [⟨(some 6), .p .move, [.tmp 0], none⟩,
    ⟨(some 7), .p .nilCheck, [.tmp 6], none⟩,
    ⟨(some 8), .p (.fieldAddr 1), [.tmp 7], none⟩,
    ⟨(some 9), .r (.load none), [.tmp 8], none⟩,
    ⟨(some 10), .p .move, [.tmp 9], none⟩,
    ⟨(some 11), .p .move, [.tmp 0], some (10, false)⟩,
    ⟨(some 12), .p .nilCheck, [.tmp 11], some (10, false)⟩,
    ⟨(some 13), .p (.fieldAddr 0), [.tmp 12], some (10, false)⟩,
    ⟨(some 14), .r (.load none), [.tmp 13], some (10, false)⟩,
    ⟨(some 15), .p .lenStr, [.tmp 14], some (10, false)⟩,
    ⟨(some 16), .p .move, [.tmp 1], some (10, false)⟩,
    ⟨(some 17), .p (.bin .lss), [.tmp 15, .tmp 16], some (10, false)⟩,
    ⟨(some 18), .p .pick, [.tmp 10, .lit (.bool true), .tmp 17], none⟩])
  (.cond (.tmp 18) (.seq (.reg [⟨(some 19), .p .move, [.tmp 0], none⟩,
    ⟨(some 20), .p .nilCheck, [.tmp 19], none⟩,
    ⟨(some 21), .p (.fieldAddr 1), [.tmp 20], none⟩,
    ⟨none, .h (.store 1), [.tmp 21, .lit (.bool true)], none⟩])
  (.seq (.reg [⟨(some 22), .p .move, [.tmp 1], none⟩,
    ⟨(some 23), .a (.makeSlice [(.int .u8 0)]), [.tmp 22, .tmp 22], none⟩,
    ⟨(some 24), .r .toStr, [.tmp 23], none⟩,
    ⟨(some 4), .p .move, [.tmp 24], none⟩])
  .ret))
  .skip))
  (.seq (.reg [⟨(some 25), .p .move, [.tmp 0], none⟩,
    ⟨(some 26), .p .nilCheck, [.tmp 25], none⟩,
    ⟨(some 27), .p (.fieldAddr 0), [.tmp 26], none⟩,
    ⟨(some 28), .r (.load none), [.tmp 27], none⟩,
    ⟨(some 29), .p .move, [.tmp 1], none⟩,
    ⟨(some 30), .p (.sliceStr false true), [.tmp 28, .tmp 29], none⟩,
    ⟨(some 5), .p .move, [.tmp 30], none⟩])
  (.seq (.reg [⟨(some 31), .p .move, [.tmp 0], none⟩,
    ⟨(some 32), .p .move, [.tmp 0], none⟩,
    ⟨(some 33), .p .nilCheck, [.tmp 32], none⟩,
    ⟨(some 34), .p (.fieldAddr 0), [.tmp 33], none⟩,
    ⟨(some 35), .r (.load none), [.tmp 34], none⟩,
    ⟨(some 36), .p .move, [.tmp 1], none⟩,
    ⟨(some 37), .p (.sliceStr true false), [.tmp 35, .tmp 36], none⟩,
    ⟨(some 38), .p .nilCheck, [.tmp 31], none⟩,
    ⟨(some 39), .p (.fieldAddr 0), [.tmp 38], none⟩,
    ⟨none, .h (.store 1), [.tmp 39, .tmp 37], none⟩])
  (.seq (.reg [⟨(some 40), .p .move, [.tmp 5], none⟩,
    ⟨(some 4), .p .move, [.tmp 40], none⟩])
  .ret))))), [.tmp 4]⟩
theorem c27 : cFunc Go.Proofs.Try.prog false 2 Go.Proofs.Try.f27 = some sf27 := by kernel_rfl

/-- (*rosary/pack.Reader).take -/
def sf28 : SFunc := ⟨2, 41, (.seq (.reg [⟨(some 4), .p .move, [.lit (.str [])], none⟩])
  (.seq (.seq (.reg [⟨(some 6), .p .move, [.tmp 0], none⟩,
    ⟨(some 7), .p (.eq false .ptr), [.tmp 6, .lit .nilptr], none⟩,
    ⟨(some 8), .p .move, [.tmp 7], none⟩,
    ⟨(some 9), .p .move, [.tmp 0], some (8, false)⟩,
    ⟨(some 10), .p .nilCheck, [.tmp 9], some (8, false)⟩,
    ⟨(some 11), .p (.fieldAddr 1), [.tmp 10], some (8, false)⟩,
    ⟨(some 12), .r (.load none), [.tmp 11], some (8, false)⟩,
    ⟨(some 13), .p .pick, [.tmp 8, .lit (.bool true), .tmp 12], none⟩])
  (.cond (.tmp 13) (.seq (.reg [⟨(some 4), .p .move, [.lit (.str [])], none⟩])
  .ret)
  .skip))
  (.seq (.seq (.reg [⟨(some 14), .p .move, [.tmp 1], none⟩,
    ⟨(some 15), .p .move, [.tmp 0], none⟩,
    ⟨(some 16), .p .nilCheck, [.tmp 15], none⟩,
    ⟨(some 17), .p (.fieldAddr 0), [.tmp 16], none⟩,
    ⟨(some 18), .r (.load none), [.tmp 17], none⟩,
    ⟨(some 19), .p .lenStr, [.tmp 18], none⟩,
    ⟨(some 20), .p (.bin .gtr), [.tmp 14, .tmp 19], none⟩])
  (.cond (.tmp 20) (.seq (.reg [⟨(some 21), .p .move, [.tmp 0], none⟩,
    ⟨(some 22), .p .nilCheck, [.tmp 21], none⟩,
    ⟨(some 23), .p (.fieldAddr 1), [.tmp 22], none⟩,
    ⟨none, .h (.store 1), [.tmp 23, .lit (.bool true)], none⟩])
  (.seq (.reg [⟨(some 4), .p .move, [.lit (.str [])], none⟩])
  .ret))
  .skip))
  (.seq (.reg [⟨(some 24), .p .move, [.tmp 0], none⟩,
    ⟨(some 25), .p .nilCheck, [.tmp 24], none⟩,
    ⟨(some 26), .p (.fieldAddr 0), [.tmp 25], none⟩,
    ⟨(some 27), .r (.load none), [.tmp 26], none⟩,
    ⟨(some 28), .p .move, [.tmp 1], none⟩,
    ⟨(some 29), .p (.sliceStr false true), [.tmp 27, .tmp 28], none⟩,
    ⟨(some 5), .p .move, [.tmp 29], none⟩])
  (.seq (.reg [⟨(some 30), .p .move, [.tmp 0], none⟩,
    ⟨(some 31), .p .move, [.tmp 0], none⟩,
    ⟨(some 32), .p .nilCheck, [.tmp 31], none⟩,
    ⟨(some 33), .p (.fieldAddr 0), [.tmp 32], none⟩,
    ⟨(some 34), .r (.load none), [.tmp 33], none⟩,
    ⟨(some 35), .p .move, [.tmp 1], none⟩,
    ⟨(some 36), .p (.sliceStr true false), [.tmp 34, .tmp 35], none⟩,
    ⟨(some 37), .p .nilCheck, [.tmp 30], none⟩,
    ⟨(some 38), .p (.fieldAddr 0), [.tmp 37], none⟩,
    ⟨none, .h (.store 1), [.tmp 38, .tmp 36], none⟩])
  (.seq (.reg [⟨(some 39), .p .move, [.tmp 5], none⟩,
    ⟨(some 40), .h (.call 30), [.tmp 39], none⟩,
    ⟨(some 4), .p .move, [.tmp 40], none⟩])
  .ret)))))), [.tmp 4]⟩
theorem c28 : cFunc Go.Proofs.Try.prog false 2 Go.Proofs.Try.f28 = some sf28 := by kernel_rfl

/-- rosary/rosaryref1.Addr -/
def sf29 : SFunc := ⟨1, 22, (.seq (.reg [⟨(some 2), .p .move, [.lit (.int .u64 0)], none⟩])
  (.seq (.reg [⟨(some 3), .p .move, [.lit (.int .u64 0)], none⟩])
  (.seq (.seq (.reg [⟨(some 4), .p .move, [.lit (.int .i64 0)], none⟩])
  (.block 0 (.loop [0, 3, 4] (.seq (.seq (.reg [⟨(some 5), .p .move, [.tmp 4], none⟩,
    ⟨(some 6), .p (.bin .lss), [.tmp 5, .lit (.int .i64 8)], none⟩])
  (.cond (.tmp 6) .skip
  (.exit 0)))
  (.seq (.block 1 (.seq (.reg [⟨(some 9), .p .move, [.tmp 3], none⟩,
    ⟨(some 10), .p (.bin .mul), [.tmp 9, .lit (.int .u64 256)], none⟩,
    ⟨(some 3), .p .move, [.tmp 10], none⟩])
  (.seq (.reg [⟨(some 11), .p .move, [.tmp 4], none⟩,
    ⟨(some 12), .p .move, [.tmp 0], none⟩,
    ⟨(some 13), .p .lenStr, [.tmp 12], none⟩,
    ⟨(some 14), .p (.bin .lss), [.tmp 11, .tmp 13], none⟩])
  (.cond (.tmp 14) (.reg [⟨(some 15), .p .move, [.tmp 3], none⟩,
    ⟨(some 16), .p .move, [.tmp 0], none⟩,
    ⟨(some 17), .p .move, [.tmp 4], none⟩,
    ⟨(some 18), .p .indexStr, [.tmp 16, .tmp 17], none⟩,
    ⟨(some 19), .p (.convInt .u64), [.tmp 18], none⟩,
    ⟨(some 20), .p (.bin .add), [.tmp 15, .tmp 19], none⟩,
    ⟨(some 3), .p .move, [.tmp 20], none⟩])
  .skip))))
  (.reg [⟨(some 7), .p .move, [.tmp 4], none⟩,
    ⟨(some 8), .p (.bin .add), [.tmp 7, .lit (.int .i64 1)], none⟩,
    ⟨(some 4), .p .move, [.tmp 8], none⟩]))))))
  (.seq (.reg [⟨(some 21), .p .move, [.tmp 3], none⟩,
    ⟨(some 2), .p .move, [.tmp 21], none⟩])
  .ret)))), [.tmp 2]⟩
theorem c29 : cFunc Go.Proofs.Try.prog false 1 Go.Proofs.Try.f29 = some sf29 := by kernel_rfl

/-- strings.Clone -/
def sf30 : SFunc := ⟨1, 5, (.seq (.reg [⟨(some 2), .p .move, [.lit (.str [])], none⟩])
  (.seq (.reg [⟨(some 3), .p .move, [.tmp 0], none⟩,
    ⟨(some 4), .h (.call 31), [.tmp 3], none⟩,
    ⟨(some 2), .p .move, [.tmp 4], none⟩])
  .ret)), [.tmp 2]⟩
theorem c30 : cFunc Go.Proofs.Try.prog false 1 Go.Proofs.Try.f30 = some sf30 := by kernel_rfl

def fs : FuncId → Option SFunc
  | 3 => some sf3
  | 4 => some sf4
  | 5 => some sf5
  | 6 => some sf6
  | 7 => some sf7
  | 8 => some sf8
  | 9 => some sf9
  | 10 => some sf10
  | 11 => some sf11
  | 12 => some sf12
  | 13 => some sf13
  | 14 => some sf14
  | 15 => some sf15
  | 16 => some sf16
  | 17 => some sf17
  | 18 => some sf18
  | 19 => some sf19
  | 20 => some sf20
  | 21 => some sf21
  | 22 => some sf22
  | 23 => some sf23
  | 24 => some sf24
  | 25 => some sf25
  | 26 => some sf26
  | 27 => some sf27
  | 28 => some sf28
  | 29 => some sf29
  | 30 => some sf30
  | _ => none
theorem fsOk : FsOk Go.Proofs.Try.prog fs := by
  intro f sf h
  unfold fs at h
  split at h
  · cases h; exact ⟨Go.Proofs.Try.f3, _, _, Go.Proofs.Try.func3, c3⟩
  · cases h; exact ⟨Go.Proofs.Try.f4, _, _, Go.Proofs.Try.func4, c4⟩
  · cases h; exact ⟨Go.Proofs.Try.f5, _, _, Go.Proofs.Try.func5, c5⟩
  · cases h; exact ⟨Go.Proofs.Try.f6, _, _, Go.Proofs.Try.func6, c6⟩
  · cases h; exact ⟨Go.Proofs.Try.f7, _, _, Go.Proofs.Try.func7, c7⟩
  · cases h; exact ⟨Go.Proofs.Try.f8, _, _, Go.Proofs.Try.func8, c8⟩
  · cases h; exact ⟨Go.Proofs.Try.f9, _, _, Go.Proofs.Try.func9, c9⟩
  · cases h; exact ⟨Go.Proofs.Try.f10, _, _, Go.Proofs.Try.func10, c10⟩
  · cases h; exact ⟨Go.Proofs.Try.f11, _, _, Go.Proofs.Try.func11, c11⟩
  · cases h; exact ⟨Go.Proofs.Try.f12, _, _, Go.Proofs.Try.func12, c12⟩
  · cases h; exact ⟨Go.Proofs.Try.f13, _, _, Go.Proofs.Try.func13, c13⟩
  · cases h; exact ⟨Go.Proofs.Try.f14, _, _, Go.Proofs.Try.func14, c14⟩
  · cases h; exact ⟨Go.Proofs.Try.f15, _, _, Go.Proofs.Try.func15, c15⟩
  · cases h; exact ⟨Go.Proofs.Try.f16, _, _, Go.Proofs.Try.func16, c16⟩
  · cases h; exact ⟨Go.Proofs.Try.f17, _, _, Go.Proofs.Try.func17, c17⟩
  · cases h; exact ⟨Go.Proofs.Try.f18, _, _, Go.Proofs.Try.func18, c18⟩
  · cases h; exact ⟨Go.Proofs.Try.f19, _, _, Go.Proofs.Try.func19, c19⟩
  · cases h; exact ⟨Go.Proofs.Try.f20, _, _, Go.Proofs.Try.func20, c20⟩
  · cases h; exact ⟨Go.Proofs.Try.f21, _, _, Go.Proofs.Try.func21, c21⟩
  · cases h; exact ⟨Go.Proofs.Try.f22, _, _, Go.Proofs.Try.func22, c22⟩
  · cases h; exact ⟨Go.Proofs.Try.f23, _, _, Go.Proofs.Try.func23, c23⟩
  · cases h; exact ⟨Go.Proofs.Try.f24, _, _, Go.Proofs.Try.func24, c24⟩
  · cases h; exact ⟨Go.Proofs.Try.f25, _, _, Go.Proofs.Try.func25, c25⟩
  · cases h; exact ⟨Go.Proofs.Try.f26, _, _, Go.Proofs.Try.func26, c26⟩
  · cases h; exact ⟨Go.Proofs.Try.f27, _, _, Go.Proofs.Try.func27, c27⟩
  · cases h; exact ⟨Go.Proofs.Try.f28, _, _, Go.Proofs.Try.func28, c28⟩
  · cases h; exact ⟨Go.Proofs.Try.f29, _, _, Go.Proofs.Try.func29, c29⟩
  · cases h; exact ⟨Go.Proofs.Try.f30, _, _, Go.Proofs.Try.func30, c30⟩
  · cases h

end Go.Proofs.Ytnfdgbapionojaa.F
