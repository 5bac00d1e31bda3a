/-
The program, told with what its values say. No further condition.
-/
import Derived.Test.YticpkoakbneefaaAbS
import Derived.Test.YticpkoakbneefaaProg
import Derived.KernelRfl
import Derived.IntWalk
namespace Go.Proofs.Yticpkoakbneefaa
open Go.Proofs.Yticpkoakbneefaa.Ab
set_option maxRecDepth 100000
/-- whetstone/whetstonelaw01.NatKeeps -/
def b3_0 : D := .seq (.seq (.reg [⟨some 77, none, .mv (.t 16)⟩,
  ⟨some 78, none, .mv (.t 14)⟩,
  ⟨some 79, none, .mv (.t 15)⟩,
  ⟨some 80, none, .ia 1 (.t 78) (.t 79)⟩,
  ⟨some 81, none, .ld (.t 80)⟩,
  ⟨some 82, none, .llen (.t 81)⟩,
  ⟨some 83, none, .bin .lss (.t 77) (.t 82)⟩]) (.kb [0, 1, 5, 6, 14, 15, 16, 83] (.cond (.t 83) .skip (.exit 2)))) (.kb [0, 1, 5, 6, 14, 15, 16] (.seq (.block 3 (.reg [⟨some 86, none, .mv (.t 14)⟩,
  ⟨some 87, none, .mv (.t 15)⟩,
  ⟨some 88, none, .ia 1 (.t 86) (.t 87)⟩,
  ⟨some 89, none, .ld (.t 88)⟩,
  ⟨some 90, none, .mv (.t 16)⟩,
  ⟨some 91, none, .ia 1 (.t 89) (.t 90)⟩,
  ⟨none, none, .st 1 (.t 91) (.c (.int .u32 5))⟩])) (.kb [0, 1, 5, 6, 14, 15, 16] (.reg [⟨some 84, none, .mv (.t 16)⟩,
  ⟨some 85, none, .bin .add (.t 84) (.c (.int .i64 1))⟩,
  ⟨some 16, none, .mv (.t 85)⟩]))))
def b3_1 : D := .seq (.seq (.reg [⟨some 71, none, .mv (.t 15)⟩,
  ⟨some 72, none, .mv (.t 14)⟩,
  ⟨some 73, none, .llen (.t 72)⟩,
  ⟨some 74, none, .bin .lss (.t 71) (.t 73)⟩]) (.kb [0, 1, 5, 6, 14, 15, 74] (.cond (.t 74) .skip (.exit 0)))) (.kb [0, 1, 5, 6, 14, 15] (.seq (.block 1 (.seq (.reg [⟨some 16, none, .mv (.c (.int .i64 0))⟩]) (.kb [0, 1, 5, 6, 14, 15, 16] (.block 2 (.loop [0, 1, 5, 6, 14, 15, 16] b3_0))))) (.kb [0, 1, 5, 6, 14, 15] (.reg [⟨some 75, none, .mv (.t 15)⟩,
  ⟨some 76, none, .bin .add (.t 75) (.c (.int .i64 1))⟩,
  ⟨some 15, none, .mv (.t 76)⟩]))))
def d3 : D := .seq (.reg [⟨some 4, none, .mv (.c (.bool false))⟩]) (.kb [0, 1] (.seq (.seq (.reg [⟨some 17, none, .call 4 []⟩,
  ⟨some 18, none, .un .not (.t 17)⟩,
  ⟨some 19, none, .mv (.t 18)⟩,
  ⟨some 20, some (19, false), .mv (.t 0)⟩,
  ⟨some 21, some (19, false), .llen (.t 20)⟩,
  ⟨some 22, some (19, false), .bin .gtr (.t 21) (.c (.int .i64 12))⟩,
  ⟨some 23, none, .pick (.t 19) (.c (.bool true)) (.t 22)⟩,
  ⟨some 24, none, .mv (.t 23)⟩,
  ⟨some 25, some (24, false), .mv (.t 1)⟩,
  ⟨some 26, some (24, false), .llen (.t 25)⟩,
  ⟨some 27, some (24, false), .bin .gtr (.t 26) (.c (.int .i64 12))⟩,
  ⟨some 28, none, .pick (.t 24) (.c (.bool true)) (.t 27)⟩]) (.kb [0, 1, 28] (.cond (.t 28) (.seq (.reg [⟨some 29, none, .call 4 []⟩,
  ⟨some 4, none, .mv (.t 29)⟩]) .ret) .skip))) (.kb [0, 1] (.seq (.reg [⟨some 30, none, .bslice [.int .u32 0] 0 []⟩,
  ⟨some 31, none, .mv (.t 0)⟩,
  ⟨some 32, none, .app 4 1 (.t 30) (.t 31)⟩,
  ⟨some 33, none, .bslice [.int .u32 0] 1 [(0, .c (.int .u32 7))]⟩,
  ⟨some 34, none, .app 4 1 (.t 32) (.t 33)⟩,
  ⟨some 35, none, .mv (.t 0)⟩,
  ⟨some 36, none, .llen (.t 35)⟩,
  ⟨some 37, none, .lsl 1 (.t 34) none (some (.t 36))⟩,
  ⟨some 5, none, .mv (.t 37)⟩]) (.kb [0, 1, 5] (.seq (.reg [⟨some 38, none, .bslice [.int .u32 0] 0 []⟩,
  ⟨some 39, none, .mv (.t 1)⟩,
  ⟨some 40, none, .app 4 1 (.t 38) (.t 39)⟩,
  ⟨some 41, none, .bslice [.int .u32 0] 1 [(0, .c (.int .u32 9))]⟩,
  ⟨some 42, none, .app 4 1 (.t 40) (.t 41)⟩,
  ⟨some 43, none, .mv (.t 1)⟩,
  ⟨some 44, none, .llen (.t 43)⟩,
  ⟨some 45, none, .lsl 1 (.t 42) none (some (.t 44))⟩,
  ⟨some 6, none, .mv (.t 45)⟩]) (.kb [0, 1, 5, 6] (.seq (.reg [⟨some 46, none, .mv (.t 5)⟩,
  ⟨some 47, none, .mv (.t 6)⟩,
  ⟨some 48, none, .call 5 [.t 46, .t 47]⟩,
  ⟨some 49, none, .mv (.t 5)⟩,
  ⟨some 50, none, .mv (.t 6)⟩,
  ⟨some 51, none, .call 6 [.t 49, .t 50]⟩,
  ⟨some 52, none, .mv (.t 5)⟩,
  ⟨some 53, none, .call 7 [.t 52]⟩,
  ⟨some 7, none, .mv (.t 48)⟩,
  ⟨some 8, none, .mv (.t 51)⟩,
  ⟨some 9, none, .mv (.t 53)⟩]) (.kb [0, 1, 5, 6, 7, 8, 9] (.seq (.reg [⟨some 55, none, .mv (.t 5)⟩,
  ⟨some 56, none, .mv (.t 6)⟩,
  ⟨some 57, none, .call 8 [.t 55, .t 56]⟩,
  ⟨some 54, none, .mv (.t 57)⟩,
  ⟨some 58, none, .ext (.t 54) 0⟩,
  ⟨some 59, none, .ext (.t 54) 1⟩,
  ⟨some 60, none, .ext (.t 54) 2⟩,
  ⟨some 10, none, .mv (.t 58)⟩,
  ⟨some 11, none, .mv (.t 59)⟩,
  ⟨some 12, none, .mv (.t 60)⟩]) (.kb [0, 1, 5, 6, 7, 8, 9, 10, 11] (.seq (.reg [⟨some 61, none, .mv (.t 5)⟩,
  ⟨some 62, none, .mv (.t 6)⟩,
  ⟨some 63, none, .call 9 [.t 61, .t 62]⟩,
  ⟨some 13, none, .mv (.t 63)⟩]) (.kb [0, 1, 5, 6, 7, 8, 9, 10, 11, 13] (.seq (.reg [⟨some 64, none, .mv (.t 7)⟩,
  ⟨some 65, none, .mv (.t 8)⟩,
  ⟨some 66, none, .mv (.t 9)⟩,
  ⟨some 67, none, .mv (.t 10)⟩,
  ⟨some 68, none, .mv (.t 11)⟩,
  ⟨some 69, none, .mv (.t 13)⟩,
  ⟨some 70, none, .bslice [.nils] 6 [(0, .t 64), (1, .t 65), (2, .t 66), (3, .t 67), (4, .t 68), (5, .t 69)]⟩,
  ⟨some 14, none, .mv (.t 70)⟩]) (.kb [0, 1, 5, 6, 14] (.seq (.seq (.reg [⟨some 15, none, .mv (.c (.int .i64 0))⟩]) (.kb [0, 1, 5, 6, 14, 15] (.block 0 (.loop [0, 1, 5, 6, 14, 15] b3_1)))) (.kb [0, 1, 5, 6] (.seq (.reg [⟨some 92, none, .mv (.t 5)⟩,
  ⟨some 93, none, .mv (.t 0)⟩,
  ⟨some 94, none, .call 10 [.t 92, .t 93]⟩,
  ⟨some 95, none, .mv (.t 94)⟩,
  ⟨some 96, some (95, true), .mv (.t 6)⟩,
  ⟨some 97, some (95, true), .mv (.t 1)⟩,
  ⟨some 98, some (95, true), .call 10 [.t 96, .t 97]⟩,
  ⟨some 99, none, .pick (.t 95) (.t 98) (.c (.bool false))⟩,
  ⟨some 100, none, .mv (.t 99)⟩,
  ⟨some 101, some (100, true), .mv (.t 5)⟩,
  ⟨some 102, some (100, true), .mv (.t 0)⟩,
  ⟨some 103, some (100, true), .llen (.t 102)⟩,
  ⟨some 104, some (100, true), .bin .add (.t 103) (.c (.int .i64 1))⟩,
  ⟨some 105, some (100, true), .lsl 1 (.t 101) none (some (.t 104))⟩,
  ⟨some 106, some (100, true), .mv (.t 0)⟩,
  ⟨some 107, some (100, true), .llen (.t 106)⟩,
  ⟨some 108, some (100, true), .ia 1 (.t 105) (.t 107)⟩,
  ⟨some 109, some (100, true), .ld (.t 108)⟩,
  ⟨some 110, some (100, true), .bin .eql (.t 109) (.c (.int .u32 7))⟩,
  ⟨some 111, none, .pick (.t 100) (.t 110) (.c (.bool false))⟩,
  ⟨some 112, none, .mv (.t 111)⟩,
  ⟨some 113, some (112, true), .mv (.t 6)⟩,
  ⟨some 114, some (112, true), .mv (.t 1)⟩,
  ⟨some 115, some (112, true), .llen (.t 114)⟩,
  ⟨some 116, some (112, true), .bin .add (.t 115) (.c (.int .i64 1))⟩,
  ⟨some 117, some (112, true), .lsl 1 (.t 113) none (some (.t 116))⟩,
  ⟨some 118, some (112, true), .mv (.t 1)⟩,
  ⟨some 119, some (112, true), .llen (.t 118)⟩,
  ⟨some 120, some (112, true), .ia 1 (.t 117) (.t 119)⟩,
  ⟨some 121, some (112, true), .ld (.t 120)⟩,
  ⟨some 122, some (112, true), .bin .eql (.t 121) (.c (.int .u32 9))⟩,
  ⟨some 123, none, .pick (.t 112) (.t 122) (.c (.bool false))⟩,
  ⟨some 4, none, .mv (.t 123)⟩]) .ret))))))))))))))))))
def f3 : FD := ⟨124, [.t 4], d3, .all⟩
theorem ok3 : compF planOf Try.prog 3 = some ⟨124, [.t 4], d3.er⟩ := by kernel_rfl
/-- whetstone/whetstonelaw01.counted -/
def d4 : D := .seq (.reg [⟨some 0, none, .mv (.c (.bool false))⟩]) (.kb [] (.seq (.reg [⟨some 5, none, .bslice [.int .u32 0] 3 [(0, .c (.int .u32 0)), (1, .c (.int .u32 0)), (2, .c (.int .u32 1))]⟩,
  ⟨some 6, none, .bslice [.int .u32 0] 2 [(0, .c (.int .u32 1)), (1, .c (.int .u32 1))]⟩,
  ⟨some 7, none, .call 8 [.t 5, .t 6]⟩,
  ⟨some 4, none, .mv (.t 7)⟩,
  ⟨some 8, none, .ext (.t 4) 0⟩,
  ⟨some 9, none, .ext (.t 4) 1⟩,
  ⟨some 10, none, .ext (.t 4) 2⟩,
  ⟨some 1, none, .mv (.t 8)⟩,
  ⟨some 2, none, .mv (.t 9)⟩,
  ⟨some 3, none, .mv (.t 10)⟩]) (.kb [1, 2, 3] (.seq (.reg [⟨some 11, none, .mv (.t 3)⟩,
  ⟨some 12, none, .bin .eql (.t 11) (.c (.int .i64 0))⟩,
  ⟨some 13, none, .mv (.t 12)⟩,
  ⟨some 14, some (13, true), .bslice [.int .u32 0] 2 [(0, .c (.int .u32 0)), (1, .c (.int .u32 1))]⟩,
  ⟨some 15, some (13, true), .bslice [.int .u32 0] 2 [(0, .c (.int .u32 0)), (1, .c (.int .u32 1))]⟩,
  ⟨some 16, some (13, true), .call 6 [.t 14, .t 15]⟩,
  ⟨some 17, some (13, true), .bslice [.int .u32 0] 3 [(0, .c (.int .u32 0)), (1, .c (.int .u32 0)), (2, .c (.int .u32 1))]⟩,
  ⟨some 18, some (13, true), .call 10 [.t 16, .t 17]⟩,
  ⟨some 19, none, .pick (.t 13) (.t 18) (.c (.bool false))⟩,
  ⟨some 20, none, .mv (.t 19)⟩,
  ⟨some 21, some (20, true), .mv (.t 1)⟩,
  ⟨some 22, some (20, true), .bslice [.int .u32 0] 1 [(0, .c (.int .u32 4294967295))]⟩,
  ⟨some 23, some (20, true), .call 10 [.t 21, .t 22]⟩,
  ⟨some 24, none, .pick (.t 20) (.t 23) (.c (.bool false))⟩,
  ⟨some 25, none, .mv (.t 24)⟩,
  ⟨some 26, some (25, true), .mv (.t 2)⟩,
  ⟨some 27, some (25, true), .bslice [.int .u32 0] 1 [(0, .c (.int .u32 1))]⟩,
  ⟨some 28, some (25, true), .call 10 [.t 26, .t 27]⟩,
  ⟨some 29, none, .pick (.t 25) (.t 28) (.c (.bool false))⟩,
  ⟨some 30, none, .mv (.t 29)⟩,
  ⟨some 31, some (30, true), .bslice [.int .u32 0] 2 [(0, .c (.int .u32 0)), (1, .c (.int .u32 1))]⟩,
  ⟨some 32, some (30, true), .call 11 [.t 31]⟩,
  ⟨some 33, some (30, true), .bin .eql (.t 32) (.c (.str [52, 50, 57, 52, 57, 54, 55, 50, 57, 54]))⟩,
  ⟨some 34, none, .pick (.t 30) (.t 33) (.c (.bool false))⟩,
  ⟨some 0, none, .mv (.t 34)⟩]) .ret))))
def f4 : FD := ⟨35, [.t 0], d4, .all⟩
theorem ok4 : compF planOf Try.prog 4 = some ⟨35, [.t 0], d4.er⟩ := by kernel_rfl
/-- whetstone/nat.Add -/
def b5_0 : D := .seq (.reg [⟨some 23, none, .bin .lss (.t 22) (.t 21)⟩]) (.kb [0, 1, 5, 6, 21, 22, 23] (.seq (.cond (.t 23) .skip (.exit 0)) (.kb [0, 1, 5, 6, 21, 22] (.seq (.block 1 (.seq (.reg [⟨some 24, none, .mv (.t 22)⟩,
  ⟨some 7, none, .mv (.t 24)⟩]) (.kb [0, 1, 5, 6, 7, 21, 22] (.seq (.reg [⟨some 8, none, .mv (.c (.int .u32 0))⟩]) (.kb [0, 1, 5, 6, 7, 8, 21, 22] (.seq (.seq (.reg [⟨some 25, none, .mv (.t 7)⟩,
  ⟨some 26, none, .mv (.t 1)⟩,
  ⟨some 27, none, .llen (.t 26)⟩,
  ⟨some 28, none, .bin .lss (.t 25) (.t 27)⟩]) (.kb [0, 1, 5, 6, 7, 8, 21, 22, 28] (.cond (.t 28) (.reg [⟨some 29, none, .mv (.t 1)⟩,
  ⟨some 30, none, .mv (.t 7)⟩,
  ⟨some 31, none, .ia 1 (.t 29) (.t 30)⟩,
  ⟨some 32, none, .ld (.t 31)⟩,
  ⟨some 8, none, .mv (.t 32)⟩]) .skip))) (.kb [0, 1, 5, 6, 7, 8, 21, 22] (.reg [⟨some 34, none, .mv (.t 5)⟩,
  ⟨some 35, none, .mv (.t 7)⟩,
  ⟨some 36, none, .mv (.t 0)⟩,
  ⟨some 37, none, .mv (.t 7)⟩,
  ⟨some 38, none, .ia 1 (.t 36) (.t 37)⟩,
  ⟨some 39, none, .ld (.t 38)⟩,
  ⟨some 40, none, .mv (.t 8)⟩,
  ⟨some 41, none, .mv (.t 6)⟩,
  ⟨some 42, none, .call 12 [.t 39, .t 40, .t 41]⟩,
  ⟨some 33, none, .mv (.t 42)⟩,
  ⟨some 43, none, .ext (.t 33) 0⟩,
  ⟨some 44, none, .ext (.t 33) 1⟩,
  ⟨some 45, none, .ia 1 (.t 34) (.t 35)⟩,
  ⟨none, none, .st 1 (.t 45) (.t 43)⟩,
  ⟨some 6, none, .mv (.t 44)⟩])))))))) (.kb [0, 1, 5, 6, 21, 22] (.reg [⟨some 46, none, .bin .add (.t 22) (.c (.int .i64 1))⟩,
  ⟨some 22, none, .mv (.t 46)⟩]))))))
def d5 : D := .seq (.reg [⟨some 4, none, .mv (.c (.nils))⟩]) (.kb [0, 1] (.seq (.seq (.reg [⟨some 9, none, .mv (.t 0)⟩,
  ⟨some 10, none, .llen (.t 9)⟩,
  ⟨some 11, none, .mv (.t 1)⟩,
  ⟨some 12, none, .llen (.t 11)⟩,
  ⟨some 13, none, .bin .lss (.t 10) (.t 12)⟩]) (.kb [0, 1, 13] (.cond (.t 13) (.reg [⟨some 14, none, .mv (.t 1)⟩,
  ⟨some 15, none, .mv (.t 0)⟩,
  ⟨some 0, none, .mv (.t 14)⟩,
  ⟨some 1, none, .mv (.t 15)⟩]) .skip))) (.kb [0, 1] (.seq (.reg [⟨some 16, none, .mv (.t 0)⟩,
  ⟨some 17, none, .llen (.t 16)⟩,
  ⟨some 18, none, .bin .add (.t 17) (.c (.int .i64 1))⟩,
  ⟨some 19, none, .mksl 4 [.int .u32 0] (.t 18) (.t 18)⟩,
  ⟨some 5, none, .mv (.t 19)⟩]) (.kb [0, 1, 5] (.seq (.reg [⟨some 6, none, .mv (.c (.int .u32 0))⟩]) (.kb [0, 1, 5, 6] (.seq (.seq (.reg [⟨some 20, none, .mv (.t 0)⟩,
  ⟨some 21, none, .llen (.t 20)⟩,
  ⟨some 22, none, .mv (.c (.int .i64 0))⟩]) (.kb [0, 1, 5, 6, 21, 22] (.block 0 (.loop [0, 1, 5, 6, 21, 22] b5_0)))) (.kb [0, 5, 6] (.seq (.reg [⟨some 47, none, .mv (.t 5)⟩,
  ⟨some 48, none, .mv (.t 0)⟩,
  ⟨some 49, none, .llen (.t 48)⟩,
  ⟨some 50, none, .mv (.t 6)⟩,
  ⟨some 51, none, .ia 1 (.t 47) (.t 49)⟩,
  ⟨none, none, .st 1 (.t 51) (.t 50)⟩]) (.kb [5] (.seq (.reg [⟨some 52, none, .mv (.t 5)⟩,
  ⟨some 53, none, .call 13 [.t 52]⟩,
  ⟨some 4, none, .mv (.t 53)⟩]) .ret))))))))))))
def f5 : FD := ⟨54, [.t 4], d5, .raw⟩
theorem ok5 : compF planOf Try.prog 5 = some ⟨54, [.t 4], d5.er⟩ := by kernel_rfl
/-- whetstone/nat.Mul -/
def b6_0 : D := .seq (.reg [⟨some 29, none, .bin .lss (.t 28) (.t 27)⟩]) (.kb [1, 5, 26, 27, 28, 29] (.seq (.cond (.t 29) .skip (.exit 0)) (.kb [1, 5, 26, 27, 28] (.seq (.block 1 (.seq (.reg [⟨some 30, none, .mv (.t 28)⟩,
  ⟨some 31, none, .ia 1 (.t 26) (.t 28)⟩,
  ⟨some 32, none, .ld (.t 31)⟩,
  ⟨some 6, none, .mv (.t 30)⟩,
  ⟨some 7, none, .mv (.t 32)⟩]) (.kb [1, 5, 6, 7, 26, 27, 28] (.reg [⟨some 33, none, .mv (.t 5)⟩,
  ⟨some 34, none, .mv (.t 6)⟩,
  ⟨some 35, none, .mv (.t 7)⟩,
  ⟨some 36, none, .mv (.t 1)⟩,
  ⟨some 37, none, .call 14 [.t 33, .t 34, .t 35, .t 36]⟩])))) (.kb [1, 5, 26, 27, 28] (.reg [⟨some 38, none, .bin .add (.t 28) (.c (.int .i64 1))⟩,
  ⟨some 28, none, .mv (.t 38)⟩]))))))
def d6 : D := .seq (.reg [⟨some 4, none, .mv (.c (.nils))⟩]) (.kb [0, 1] (.seq (.reg [⟨some 8, none, .mv (.t 0)⟩,
  ⟨some 9, none, .call 13 [.t 8]⟩,
  ⟨some 10, none, .mv (.t 1)⟩,
  ⟨some 11, none, .call 13 [.t 10]⟩,
  ⟨some 0, none, .mv (.t 9)⟩,
  ⟨some 1, none, .mv (.t 11)⟩]) (.kb [0, 1] (.seq (.seq (.reg [⟨some 12, none, .mv (.t 0)⟩,
  ⟨some 13, none, .llen (.t 12)⟩,
  ⟨some 14, none, .bin .eql (.t 13) (.c (.int .i64 0))⟩,
  ⟨some 15, none, .mv (.t 14)⟩,
  ⟨some 16, some (15, false), .mv (.t 1)⟩,
  ⟨some 17, some (15, false), .llen (.t 16)⟩,
  ⟨some 18, some (15, false), .bin .eql (.t 17) (.c (.int .i64 0))⟩,
  ⟨some 19, none, .pick (.t 15) (.c (.bool true)) (.t 18)⟩]) (.kb [0, 1, 19] (.cond (.t 19) (.seq (.reg [⟨some 4, none, .mv (.c (.nils))⟩]) .ret) .skip))) (.kb [0, 1] (.seq (.reg [⟨some 20, none, .mv (.t 0)⟩,
  ⟨some 21, none, .llen (.t 20)⟩,
  ⟨some 22, none, .mv (.t 1)⟩,
  ⟨some 23, none, .llen (.t 22)⟩,
  ⟨some 24, none, .bin .add (.t 21) (.t 23)⟩,
  ⟨some 25, none, .mksl 4 [.int .u32 0] (.t 24) (.t 24)⟩,
  ⟨some 5, none, .mv (.t 25)⟩]) (.kb [0, 1, 5] (.seq (.seq (.reg [⟨some 26, none, .mv (.t 0)⟩,
  ⟨some 27, none, .llen (.t 26)⟩,
  ⟨some 28, none, .mv (.c (.int .i64 0))⟩]) (.kb [1, 5, 26, 27, 28] (.block 0 (.loop [1, 5, 26, 27, 28] b6_0)))) (.kb [5] (.seq (.reg [⟨some 39, none, .mv (.t 5)⟩,
  ⟨some 40, none, .call 13 [.t 39]⟩,
  ⟨some 4, none, .mv (.t 40)⟩]) .ret))))))))))
def f6 : FD := ⟨41, [.t 4], d6, .raw⟩
theorem ok6 : compF planOf Try.prog 6 = some ⟨41, [.t 4], d6.er⟩ := by kernel_rfl
/-- whetstone/nat.Norm -/
def b7_0 : D := .seq (.seq (.reg [⟨some 6, none, .mv (.t 3)⟩,
  ⟨some 7, none, .bin .gtr (.t 6) (.c (.int .i64 0))⟩,
  ⟨some 8, none, .mv (.t 7)⟩,
  ⟨some 9, some (8, true), .mv (.t 0)⟩,
  ⟨some 10, some (8, true), .mv (.t 3)⟩,
  ⟨some 11, some (8, true), .bin .sub (.t 10) (.c (.int .i64 1))⟩,
  ⟨some 12, some (8, true), .ia 1 (.t 9) (.t 11)⟩,
  ⟨some 13, some (8, true), .ld (.t 12)⟩,
  ⟨some 14, some (8, true), .bin .eql (.t 13) (.c (.int .u32 0))⟩,
  ⟨some 15, none, .pick (.t 8) (.t 14) (.c (.bool false))⟩]) (.kb [0, 3, 15] (.cond (.t 15) .skip (.exit 0)))) (.kb [0, 3] (.block 1 (.reg [⟨some 16, none, .mv (.t 3)⟩,
  ⟨some 17, none, .bin .sub (.t 16) (.c (.int .i64 1))⟩,
  ⟨some 3, none, .mv (.t 17)⟩])))
def d7 : D := .seq (.reg [⟨some 2, none, .mv (.c (.nils))⟩]) (.kb [0] (.seq (.reg [⟨some 4, none, .mv (.t 0)⟩,
  ⟨some 5, none, .llen (.t 4)⟩,
  ⟨some 3, none, .mv (.t 5)⟩]) (.kb [0, 3] (.seq (.block 0 (.loop [0, 3] b7_0)) (.kb [0, 3] (.seq (.reg [⟨some 18, none, .mv (.t 0)⟩,
  ⟨some 19, none, .mv (.t 3)⟩,
  ⟨some 20, none, .lsl 1 (.t 18) none (some (.t 19))⟩,
  ⟨some 21, none, .app 4 1 (.c (.nils)) (.t 20)⟩,
  ⟨some 2, none, .mv (.t 21)⟩]) .ret))))))
def f7 : FD := ⟨22, [.t 2], d7, .raw⟩
theorem ok7 : compF planOf Try.prog 7 = some ⟨22, [.t 2], d7.er⟩ := by kernel_rfl
/-- whetstone/nat.DivMod -/
def b8_0 : D := .seq (.seq (.reg [⟨some 72, none, .mv (.t 12)⟩,
  ⟨some 73, none, .bin .geq (.t 72) (.c (.int .i64 0))⟩]) (.kb [4, 9, 10, 11, 12, 73] (.cond (.t 73) .skip (.exit 1)))) (.kb [4, 9, 10, 11, 12] (.seq (.block 2 (.seq (.reg [⟨some 76, none, .mv (.t 10)⟩,
  ⟨some 77, none, .mv (.t 12)⟩,
  ⟨some 78, none, .mv (.t 11)⟩,
  ⟨some 79, none, .call 20 [.t 76, .t 77, .t 78]⟩,
  ⟨some 13, none, .mv (.t 79)⟩]) (.kb [4, 9, 10, 11, 12, 13] (.seq (.seq (.reg [⟨some 80, none, .mv (.t 10)⟩,
  ⟨some 81, none, .mv (.t 12)⟩,
  ⟨some 82, none, .mv (.t 13)⟩,
  ⟨some 83, none, .mv (.t 11)⟩,
  ⟨some 84, none, .call 21 [.t 80, .t 81, .t 82, .t 83]⟩]) (.kb [4, 9, 10, 11, 12, 13, 84] (.cond (.t 84) (.seq (.reg [⟨some 85, none, .mv (.t 13)⟩,
  ⟨some 86, none, .bin .sub (.t 85) (.c (.int .u64 1))⟩,
  ⟨some 13, none, .mv (.t 86)⟩]) (.kb [4, 9, 10, 11, 12, 13] (.reg [⟨some 87, none, .mv (.t 10)⟩,
  ⟨some 88, none, .mv (.t 12)⟩,
  ⟨some 89, none, .mv (.t 11)⟩,
  ⟨some 90, none, .call 22 [.t 87, .t 88, .t 89]⟩]))) .skip))) (.kb [4, 9, 10, 11, 12, 13] (.reg [⟨some 91, none, .mv (.t 4)⟩,
  ⟨some 92, none, .mv (.t 12)⟩,
  ⟨some 93, none, .mv (.t 13)⟩,
  ⟨some 94, none, .cvi .u32 (.t 93)⟩,
  ⟨some 95, none, .ia 1 (.t 91) (.t 92)⟩,
  ⟨none, none, .st 1 (.t 95) (.t 94)⟩])))))) (.kb [4, 9, 10, 11, 12] (.reg [⟨some 74, none, .mv (.t 12)⟩,
  ⟨some 75, none, .bin .sub (.t 74) (.c (.int .i64 1))⟩,
  ⟨some 12, none, .mv (.t 75)⟩]))))
def d8 : D := .seq (.reg [⟨some 4, none, .mv (.c (.nils))⟩,
  ⟨some 5, none, .mv (.c (.nils))⟩,
  ⟨some 6, none, .mv (.c (.int .i64 0))⟩]) (.kb [0, 1] (.seq (.reg [⟨some 14, none, .mv (.t 0)⟩,
  ⟨some 15, none, .call 13 [.t 14]⟩,
  ⟨some 16, none, .mv (.t 1)⟩,
  ⟨some 17, none, .call 13 [.t 16]⟩,
  ⟨some 0, none, .mv (.t 15)⟩,
  ⟨some 1, none, .mv (.t 17)⟩]) (.kb [0, 1] (.seq (.block 0 (.seq (.reg [⟨some 19, none, .mv (.t 1)⟩,
  ⟨some 20, none, .llen (.t 19)⟩,
  ⟨some 21, none, .bin .eql (.t 20) (.c (.int .i64 0))⟩,
  ⟨some 18, none, .mv (.t 21)⟩]) (.kb [0, 1, 18] (.cond (.t 18) (.seq (.reg [⟨some 4, none, .mv (.c (.nils))⟩,
  ⟨some 5, none, .mv (.c (.nils))⟩,
  ⟨some 6, none, .mv (.c (.int .i64 4))⟩]) .ret) (.seq (.reg [⟨some 23, none, .mv (.t 0)⟩,
  ⟨some 24, none, .mv (.t 1)⟩,
  ⟨some 25, none, .call 15 [.t 23, .t 24]⟩,
  ⟨some 26, none, .bin .lss (.t 25) (.c (.int .i64 0))⟩,
  ⟨some 22, none, .mv (.t 26)⟩]) (.kb [0, 1, 22] (.cond (.t 22) (.seq (.reg [⟨some 27, none, .mv (.t 0)⟩,
  ⟨some 28, none, .call 7 [.t 27]⟩,
  ⟨some 4, none, .mv (.c (.nils))⟩,
  ⟨some 5, none, .mv (.t 28)⟩,
  ⟨some 6, none, .mv (.c (.int .i64 0))⟩]) .ret) (.seq (.reg [⟨some 30, none, .mv (.t 1)⟩,
  ⟨some 31, none, .llen (.t 30)⟩,
  ⟨some 32, none, .bin .eql (.t 31) (.c (.int .i64 1))⟩,
  ⟨some 29, none, .mv (.t 32)⟩]) (.kb [0, 1, 29] (.cond (.t 29) (.seq (.reg [⟨some 34, none, .mv (.t 0)⟩,
  ⟨some 35, none, .mv (.t 1)⟩,
  ⟨some 36, none, .ia 1 (.t 35) (.c (.int .i64 0))⟩,
  ⟨some 37, none, .ld (.t 36)⟩,
  ⟨some 38, none, .call 16 [.t 34, .t 37]⟩,
  ⟨some 33, none, .mv (.t 38)⟩,
  ⟨some 39, none, .ext (.t 33) 0⟩,
  ⟨some 40, none, .ext (.t 33) 1⟩,
  ⟨some 7, none, .mv (.t 39)⟩,
  ⟨some 8, none, .mv (.t 40)⟩]) (.kb [7, 8] (.seq (.reg [⟨some 41, none, .mv (.t 7)⟩,
  ⟨some 42, none, .mv (.t 8)⟩,
  ⟨some 43, none, .cvi .u64 (.t 42)⟩,
  ⟨some 44, none, .call 17 [.t 43]⟩,
  ⟨some 4, none, .mv (.t 41)⟩,
  ⟨some 5, none, .mv (.t 44)⟩,
  ⟨some 6, none, .mv (.c (.int .i64 0))⟩]) .ret))) .skip)))))))))) (.kb [0, 1] (.seq (.reg [⟨some 45, none, .mv (.t 1)⟩,
  ⟨some 46, none, .mv (.t 1)⟩,
  ⟨some 47, none, .llen (.t 46)⟩,
  ⟨some 48, none, .bin .sub (.t 47) (.c (.int .i64 1))⟩,
  ⟨some 49, none, .ia 1 (.t 45) (.t 48)⟩,
  ⟨some 50, none, .ld (.t 49)⟩,
  ⟨some 51, none, .call 18 [.t 50]⟩,
  ⟨some 52, none, .cvi .u64 (.t 51)⟩,
  ⟨some 9, none, .mv (.t 52)⟩]) (.kb [0, 1, 9] (.seq (.reg [⟨some 53, none, .mv (.t 0)⟩,
  ⟨some 54, none, .mv (.t 9)⟩,
  ⟨some 55, none, .call 19 [.t 53, .t 54]⟩,
  ⟨some 56, none, .mv (.t 1)⟩,
  ⟨some 57, none, .mv (.t 9)⟩,
  ⟨some 58, none, .call 19 [.t 56, .t 57]⟩,
  ⟨some 59, none, .call 13 [.t 58]⟩,
  ⟨some 10, none, .mv (.t 55)⟩,
  ⟨some 11, none, .mv (.t 59)⟩]) (.kb [0, 1, 9, 10, 11] (.seq (.reg [⟨some 60, none, .mv (.t 0)⟩,
  ⟨some 61, none, .llen (.t 60)⟩,
  ⟨some 62, none, .mv (.t 1)⟩,
  ⟨some 63, none, .llen (.t 62)⟩,
  ⟨some 64, none, .bin .sub (.t 61) (.t 63)⟩,
  ⟨some 65, none, .bin .add (.t 64) (.c (.int .i64 1))⟩,
  ⟨some 66, none, .mksl 4 [.int .u32 0] (.t 65) (.t 65)⟩,
  ⟨some 4, none, .mv (.t 66)⟩]) (.kb [0, 1, 4, 9, 10, 11] (.seq (.seq (.reg [⟨some 67, none, .mv (.t 0)⟩,
  ⟨some 68, none, .llen (.t 67)⟩,
  ⟨some 69, none, .mv (.t 1)⟩,
  ⟨some 70, none, .llen (.t 69)⟩,
  ⟨some 71, none, .bin .sub (.t 68) (.t 70)⟩,
  ⟨some 12, none, .mv (.t 71)⟩]) (.kb [4, 9, 10, 11, 12] (.block 1 (.loop [4, 9, 10, 11, 12] b8_0)))) (.kb [4, 9, 10] (.seq (.reg [⟨some 96, none, .mv (.t 4)⟩,
  ⟨some 97, none, .call 13 [.t 96]⟩,
  ⟨some 98, none, .mv (.t 10)⟩,
  ⟨some 99, none, .mv (.t 9)⟩,
  ⟨some 100, none, .call 23 [.t 98, .t 99]⟩,
  ⟨some 4, none, .mv (.t 97)⟩,
  ⟨some 5, none, .mv (.t 100)⟩,
  ⟨some 6, none, .mv (.c (.int .i64 0))⟩]) .ret))))))))))))))
def f8 : FD := ⟨101, [.t 4, .t 5, .t 6], d8, .raw⟩
theorem ok8 : compF planOf Try.prog 8 = some ⟨101, [.t 4, .t 5, .t 6], d8.er⟩ := by kernel_rfl
/-- whetstone/nat.Gcd -/
def b9_0 : D := .seq (.seq (.reg [⟨some 14, none, .mv (.t 6)⟩,
  ⟨some 15, none, .llen (.t 14)⟩,
  ⟨some 16, none, .bin .gtr (.t 15) (.c (.int .i64 0))⟩]) (.kb [5, 6, 16] (.cond (.t 16) .skip (.exit 0)))) (.kb [5, 6] (.block 1 (.seq (.reg [⟨some 18, none, .mv (.t 5)⟩,
  ⟨some 19, none, .mv (.t 6)⟩,
  ⟨some 20, none, .call 8 [.t 18, .t 19]⟩,
  ⟨some 17, none, .mv (.t 20)⟩,
  ⟨some 21, none, .ext (.t 17) 0⟩,
  ⟨some 22, none, .ext (.t 17) 1⟩,
  ⟨some 23, none, .ext (.t 17) 2⟩,
  ⟨some 7, none, .mv (.t 21)⟩,
  ⟨some 8, none, .mv (.t 22)⟩,
  ⟨some 9, none, .mv (.t 23)⟩]) (.kb [6, 8] (.reg [⟨some 24, none, .mv (.t 6)⟩,
  ⟨some 25, none, .mv (.t 8)⟩,
  ⟨some 5, none, .mv (.t 24)⟩,
  ⟨some 6, none, .mv (.t 25)⟩])))))
def d9 : D := .seq (.reg [⟨some 4, none, .mv (.c (.nils))⟩]) (.kb [0, 1] (.seq (.reg [⟨some 10, none, .mv (.t 0)⟩,
  ⟨some 11, none, .call 7 [.t 10]⟩,
  ⟨some 12, none, .mv (.t 1)⟩,
  ⟨some 13, none, .call 7 [.t 12]⟩,
  ⟨some 5, none, .mv (.t 11)⟩,
  ⟨some 6, none, .mv (.t 13)⟩]) (.kb [5, 6] (.seq (.block 0 (.loop [5, 6] b9_0)) (.kb [5] (.seq (.reg [⟨some 26, none, .mv (.t 5)⟩,
  ⟨some 4, none, .mv (.t 26)⟩]) .ret))))))
def f9 : FD := ⟨27, [.t 4], d9, .raw⟩
theorem ok9 : compF planOf Try.prog 9 = some ⟨27, [.t 4], d9.er⟩ := by kernel_rfl
/-- whetstone/whetstoneref01.Words -/
def b10_0 : D := .seq (.seq (.reg [⟨some 11, none, .mv (.t 5)⟩,
  ⟨some 12, none, .mv (.t 0)⟩,
  ⟨some 13, none, .llen (.t 12)⟩,
  ⟨some 14, none, .bin .lss (.t 11) (.t 13)⟩]) (.kb [0, 1, 5, 14] (.cond (.t 14) .skip (.exit 0)))) (.kb [0, 1, 5] (.seq (.block 1 (.seq (.drw (.q ⟨some 17, none, .mv (.t 0)⟩ (.q ⟨some 18, none, .mv (.t 5)⟩ (.q ⟨some 19, none, .ia 1 (.t 17) (.t 18)⟩ (.q ⟨some 20, none, .ld (.t 19)⟩ (.q ⟨some 21, none, .mv (.t 1)⟩ (.q ⟨some 22, none, .mv (.t 5)⟩ (.q ⟨some 23, none, .ia 1 (.t 21) (.t 22)⟩ (.q ⟨some 24, none, .ld (.t 23)⟩ (.q ⟨some 25, none, .bin .neq (.t 20) (.t 24)⟩ (.done))))))))))) (.kb [0, 1, 5, 25] (.cond (.t 25) (.seq (.reg [⟨some 4, none, .mv (.c (.bool false))⟩]) .ret) .skip)))) (.kb [0, 1, 5] (.reg [⟨some 15, none, .mv (.t 5)⟩,
  ⟨some 16, none, .bin .add (.t 15) (.c (.int .i64 1))⟩,
  ⟨some 5, none, .mv (.t 16)⟩]))))
def d10 : D := .seq (.reg [⟨some 4, none, .mv (.c (.bool false))⟩]) (.kb [0, 1] (.seq (.seq (.reg [⟨some 6, none, .mv (.t 0)⟩,
  ⟨some 7, none, .llen (.t 6)⟩,
  ⟨some 8, none, .mv (.t 1)⟩,
  ⟨some 9, none, .llen (.t 8)⟩,
  ⟨some 10, none, .bin .neq (.t 7) (.t 9)⟩]) (.kb [0, 1, 10] (.cond (.t 10) (.seq (.reg [⟨some 4, none, .mv (.c (.bool false))⟩]) .ret) .skip))) (.kb [0, 1] (.seq (.seq (.reg [⟨some 5, none, .mv (.c (.int .i64 0))⟩]) (.kb [0, 1, 5] (.block 0 (.loop [0, 1, 5] b10_0)))) (.kb [] (.seq (.reg [⟨some 4, none, .mv (.c (.bool true))⟩]) .ret))))))
def f10 : FD := ⟨26, [.t 4], d10, .all⟩
theorem ok10 : compF planOf Try.prog 10 = some ⟨26, [.t 4], d10.er⟩ := by kernel_rfl
/-- whetstone/nat.Text -/
def b11_0 : D := .seq (.seq (.reg [⟨some 13, none, .mv (.t 3)⟩,
  ⟨some 14, none, .llen (.t 13)⟩,
  ⟨some 15, none, .bin .gtr (.t 14) (.c (.int .i64 0))⟩]) (.kb [3, 4, 15] (.cond (.t 15) .skip (.exit 0)))) (.kb [3, 4] (.block 1 (.seq (.reg [⟨some 5, none, .mv (.c (.int .u32 0))⟩]) (.kb [3, 4] (.seq (.reg [⟨some 17, none, .mv (.t 3)⟩,
  ⟨some 18, none, .call 16 [.t 17, .c (.int .u32 10)]⟩,
  ⟨some 16, none, .mv (.t 18)⟩,
  ⟨some 19, none, .ext (.t 16) 0⟩,
  ⟨some 20, none, .ext (.t 16) 1⟩,
  ⟨some 3, none, .mv (.t 19)⟩,
  ⟨some 5, none, .mv (.t 20)⟩]) (.kb [3, 4, 5] (.reg [⟨some 21, none, .mv (.t 4)⟩,
  ⟨some 22, none, .mv (.t 5)⟩,
  ⟨some 23, none, .bin .add (.c (.int .u32 48)) (.t 22)⟩,
  ⟨some 24, none, .cvi .u8 (.t 23)⟩,
  ⟨some 25, none, .bslice [.int .u8 0] 1 [(0, .t 24)]⟩,
  ⟨some 26, none, .app 1 1 (.t 21) (.t 25)⟩,
  ⟨some 4, none, .mv (.t 26)⟩])))))))
def b11_1 : D := .seq (.seq (.reg [⟨some 30, none, .mv (.t 6)⟩,
  ⟨some 31, none, .mv (.t 7)⟩,
  ⟨some 32, none, .bin .lss (.t 30) (.t 31)⟩]) (.kb [4, 6, 7, 32] (.cond (.t 32) .skip (.exit 2)))) (.kb [4, 6, 7] (.seq (.block 3 (.drw (.q ⟨some 37, none, .mv (.t 4)⟩ (.q ⟨some 38, none, .mv (.t 6)⟩ (.q ⟨some 39, none, .mv (.t 4)⟩ (.q ⟨some 40, none, .mv (.t 7)⟩ (.q ⟨some 41, none, .mv (.t 4)⟩ (.q ⟨some 42, none, .mv (.t 7)⟩ (.q ⟨some 43, none, .ia 1 (.t 41) (.t 42)⟩ (.q ⟨some 44, none, .ld (.t 43)⟩ (.q ⟨some 45, none, .mv (.t 4)⟩ (.q ⟨some 46, none, .mv (.t 6)⟩ (.q ⟨some 47, none, .ia 1 (.t 45) (.t 46)⟩ (.q ⟨some 48, none, .ld (.t 47)⟩ (.q ⟨some 49, none, .ia 1 (.t 37) (.t 38)⟩ (.alt ⟨none, none, .st 1 (.t 49) (.t 44)⟩ [] (.q ⟨some 50, none, .ia 1 (.t 39) (.t 40)⟩ (.alt ⟨none, none, .st 1 (.t 50) (.t 48)⟩ [] (.done) (.stop))) (.stop))))))))))))))))) (.kb [4, 6, 7] (.reg [⟨some 33, none, .mv (.t 6)⟩,
  ⟨some 34, none, .bin .add (.t 33) (.c (.int .i64 1))⟩,
  ⟨some 35, none, .mv (.t 7)⟩,
  ⟨some 36, none, .bin .sub (.t 35) (.c (.int .i64 1))⟩,
  ⟨some 6, none, .mv (.t 34)⟩,
  ⟨some 7, none, .mv (.t 36)⟩]))))
def d11 : D := .seq (.reg [⟨some 2, none, .mv (.c (.str []))⟩]) (.kb [0] (.seq (.reg [⟨some 8, none, .mv (.t 0)⟩,
  ⟨some 9, none, .call 7 [.t 8]⟩,
  ⟨some 3, none, .mv (.t 9)⟩]) (.kb [3] (.seq (.seq (.reg [⟨some 10, none, .mv (.t 3)⟩,
  ⟨some 11, none, .llen (.t 10)⟩,
  ⟨some 12, none, .bin .eql (.t 11) (.c (.int .i64 0))⟩]) (.kb [3, 12] (.cond (.t 12) (.seq (.reg [⟨some 2, none, .mv (.c (.str [48]))⟩]) .ret) .skip))) (.kb [3] (.seq (.reg [⟨some 4, none, .mv (.c (.nils))⟩]) (.kb [3, 4] (.seq (.block 0 (.loop [3, 4] b11_0)) (.kb [4] (.seq (.seq (.reg [⟨some 27, none, .mv (.t 4)⟩,
  ⟨some 28, none, .llen (.t 27)⟩,
  ⟨some 29, none, .bin .sub (.t 28) (.c (.int .i64 1))⟩,
  ⟨some 6, none, .mv (.c (.int .i64 0))⟩,
  ⟨some 7, none, .mv (.t 29)⟩]) (.kb [4, 6, 7] (.block 2 (.loop [4, 6, 7] b11_1)))) (.kb [4] (.seq (.reg [⟨some 51, none, .mv (.t 4)⟩,
  ⟨some 52, none, .b2s (.t 51)⟩,
  ⟨some 2, none, .mv (.t 52)⟩]) .ret))))))))))))
def f11 : FD := ⟨53, [.t 2], d11, .all⟩
theorem ok11 : compF planOf Try.prog 11 = some ⟨53, [.t 2], d11.er⟩ := by kernel_rfl
/-- math/bits.Add32 -/
def d12 : D := .seq (.reg [⟨some 6, none, .mv (.c (.int .u32 0))⟩,
  ⟨some 7, none, .mv (.c (.int .u32 0))⟩]) (.kb [0, 1, 2] (.seq (.reg [⟨some 9, none, .mv (.t 0)⟩,
  ⟨some 10, none, .cvi .u64 (.t 9)⟩,
  ⟨some 11, none, .mv (.t 1)⟩,
  ⟨some 12, none, .cvi .u64 (.t 11)⟩,
  ⟨some 13, none, .bin .add (.t 10) (.t 12)⟩,
  ⟨some 14, none, .mv (.t 2)⟩,
  ⟨some 15, none, .cvi .u64 (.t 14)⟩,
  ⟨some 16, none, .bin .add (.t 13) (.t 15)⟩,
  ⟨some 8, none, .mv (.t 16)⟩]) (.kb [8] (.seq (.reg [⟨some 17, none, .mv (.t 8)⟩,
  ⟨some 18, none, .cvi .u32 (.t 17)⟩,
  ⟨some 6, none, .mv (.t 18)⟩]) (.kb [6, 8] (.seq (.reg [⟨some 19, none, .mv (.t 8)⟩,
  ⟨some 20, none, .bin .shr (.t 19) (.c (.int .u64 32))⟩,
  ⟨some 21, none, .cvi .u32 (.t 20)⟩,
  ⟨some 7, none, .mv (.t 21)⟩]) .ret))))))
def f12 : FD := ⟨22, [.t 6, .t 7], d12, .all⟩
theorem ok12 : compF planOf Try.prog 12 = some ⟨22, [.t 6, .t 7], d12.er⟩ := by kernel_rfl
/-- whetstone/nat.trim -/
def b13_0 : D := .seq (.seq (.reg [⟨some 6, none, .mv (.t 3)⟩,
  ⟨some 7, none, .bin .gtr (.t 6) (.c (.int .i64 0))⟩,
  ⟨some 8, none, .mv (.t 7)⟩,
  ⟨some 9, some (8, true), .mv (.t 0)⟩,
  ⟨some 10, some (8, true), .mv (.t 3)⟩,
  ⟨some 11, some (8, true), .bin .sub (.t 10) (.c (.int .i64 1))⟩,
  ⟨some 12, some (8, true), .ia 1 (.t 9) (.t 11)⟩,
  ⟨some 13, some (8, true), .ld (.t 12)⟩,
  ⟨some 14, some (8, true), .bin .eql (.t 13) (.c (.int .u32 0))⟩,
  ⟨some 15, none, .pick (.t 8) (.t 14) (.c (.bool false))⟩]) (.kb [0, 3, 15] (.cond (.t 15) .skip (.exit 0)))) (.kb [0, 3] (.block 1 (.reg [⟨some 16, none, .mv (.t 3)⟩,
  ⟨some 17, none, .bin .sub (.t 16) (.c (.int .i64 1))⟩,
  ⟨some 3, none, .mv (.t 17)⟩])))
def d13 : D := .seq (.reg [⟨some 2, none, .mv (.c (.nils))⟩]) (.kb [0] (.seq (.reg [⟨some 4, none, .mv (.t 0)⟩,
  ⟨some 5, none, .llen (.t 4)⟩,
  ⟨some 3, none, .mv (.t 5)⟩]) (.kb [0, 3] (.seq (.block 0 (.loop [0, 3] b13_0)) (.kb [0, 3] (.seq (.reg [⟨some 18, none, .mv (.t 0)⟩,
  ⟨some 19, none, .mv (.t 3)⟩,
  ⟨some 20, none, .lsl 1 (.t 18) none (some (.t 19))⟩,
  ⟨some 2, none, .mv (.t 20)⟩]) .ret))))))
def f13 : FD := ⟨21, [.t 2], d13, .raw⟩
theorem ok13 : compF planOf Try.prog 13 = some ⟨21, [.t 2], d13.er⟩ := by kernel_rfl
/-- whetstone/nat.addTo -/
def b14_0 : D := .seq (.reg [⟨some 17, none, .bin .lss (.t 16) (.t 15)⟩]) (.kb [0, 1, 2, 3, 8, 14, 15, 16, 17] (.seq (.cond (.t 17) .skip (.exit 0)) (.kb [0, 1, 2, 3, 8, 14, 15, 16] (.seq (.block 1 (.seq (.reg [⟨some 18, none, .mv (.t 16)⟩,
  ⟨some 19, none, .ia 1 (.t 14) (.t 16)⟩,
  ⟨some 20, none, .ld (.t 19)⟩,
  ⟨some 9, none, .mv (.t 18)⟩,
  ⟨some 10, none, .mv (.t 20)⟩]) (.kb [0, 1, 2, 3, 8, 9, 10, 14, 15, 16] (.seq (.reg [⟨some 21, none, .mv (.t 2)⟩,
  ⟨some 22, none, .cvi .u64 (.t 21)⟩,
  ⟨some 23, none, .mv (.t 10)⟩,
  ⟨some 24, none, .cvi .u64 (.t 23)⟩,
  ⟨some 25, none, .bin .mul (.t 22) (.t 24)⟩,
  ⟨some 26, none, .mv (.t 0)⟩,
  ⟨some 27, none, .mv (.t 1)⟩,
  ⟨some 28, none, .mv (.t 9)⟩,
  ⟨some 29, none, .bin .add (.t 27) (.t 28)⟩,
  ⟨some 30, none, .ia 1 (.t 26) (.t 29)⟩,
  ⟨some 31, none, .ld (.t 30)⟩,
  ⟨some 32, none, .cvi .u64 (.t 31)⟩,
  ⟨some 33, none, .bin .add (.t 25) (.t 32)⟩,
  ⟨some 34, none, .mv (.t 8)⟩,
  ⟨some 35, none, .bin .add (.t 33) (.t 34)⟩,
  ⟨some 11, none, .mv (.t 35)⟩]) (.kb [0, 1, 2, 3, 9, 11, 14, 15, 16] (.reg [⟨some 36, none, .mv (.t 0)⟩,
  ⟨some 37, none, .mv (.t 1)⟩,
  ⟨some 38, none, .mv (.t 9)⟩,
  ⟨some 39, none, .bin .add (.t 37) (.t 38)⟩,
  ⟨some 40, none, .mv (.t 11)⟩,
  ⟨some 41, none, .cvi .u32 (.t 40)⟩,
  ⟨some 42, none, .mv (.t 11)⟩,
  ⟨some 43, none, .bin .shr (.t 42) (.c (.int .u64 32))⟩,
  ⟨some 44, none, .ia 1 (.t 36) (.t 39)⟩,
  ⟨none, none, .st 1 (.t 44) (.t 41)⟩,
  ⟨some 8, none, .mv (.t 43)⟩])))))) (.kb [0, 1, 2, 3, 8, 14, 15, 16] (.reg [⟨some 45, none, .bin .add (.t 16) (.c (.int .i64 1))⟩,
  ⟨some 16, none, .mv (.t 45)⟩]))))))
def b14_1 : D := .seq (.seq (.reg [⟨some 50, none, .mv (.t 8)⟩,
  ⟨some 51, none, .bin .gtr (.t 50) (.c (.int .u64 0))⟩]) (.kb [0, 8, 12, 51] (.cond (.t 51) .skip (.exit 2)))) (.kb [0, 8, 12] (.seq (.block 3 (.seq (.reg [⟨some 54, none, .mv (.t 0)⟩,
  ⟨some 55, none, .mv (.t 12)⟩,
  ⟨some 56, none, .ia 1 (.t 54) (.t 55)⟩,
  ⟨some 57, none, .ld (.t 56)⟩,
  ⟨some 58, none, .cvi .u64 (.t 57)⟩,
  ⟨some 59, none, .mv (.t 8)⟩,
  ⟨some 60, none, .bin .add (.t 58) (.t 59)⟩,
  ⟨some 13, none, .mv (.t 60)⟩]) (.kb [0, 12, 13] (.reg [⟨some 61, none, .mv (.t 0)⟩,
  ⟨some 62, none, .mv (.t 12)⟩,
  ⟨some 63, none, .mv (.t 13)⟩,
  ⟨some 64, none, .cvi .u32 (.t 63)⟩,
  ⟨some 65, none, .mv (.t 13)⟩,
  ⟨some 66, none, .bin .shr (.t 65) (.c (.int .u64 32))⟩,
  ⟨some 67, none, .ia 1 (.t 61) (.t 62)⟩,
  ⟨none, none, .st 1 (.t 67) (.t 64)⟩,
  ⟨some 8, none, .mv (.t 66)⟩])))) (.kb [0, 8, 12] (.reg [⟨some 52, none, .mv (.t 12)⟩,
  ⟨some 53, none, .bin .add (.t 52) (.c (.int .i64 1))⟩,
  ⟨some 12, none, .mv (.t 53)⟩]))))
def d14 : D := .seq (.reg [⟨some 8, none, .mv (.c (.int .u64 0))⟩]) (.kb [0, 1, 2, 3, 8] (.seq (.seq (.reg [⟨some 14, none, .mv (.t 3)⟩,
  ⟨some 15, none, .llen (.t 14)⟩,
  ⟨some 16, none, .mv (.c (.int .i64 0))⟩]) (.kb [0, 1, 2, 3, 8, 14, 15, 16] (.block 0 (.loop [0, 1, 2, 3, 8, 14, 15, 16] b14_0)))) (.kb [0, 1, 3, 8] (.seq (.reg [⟨some 46, none, .mv (.t 1)⟩,
  ⟨some 47, none, .mv (.t 3)⟩,
  ⟨some 48, none, .llen (.t 47)⟩,
  ⟨some 49, none, .bin .add (.t 46) (.t 48)⟩,
  ⟨some 12, none, .mv (.t 49)⟩]) (.kb [0, 8, 12] (.block 2 (.loop [0, 8, 12] b14_1)))))))
def f14 : FD := ⟨68, [], d14, .raw⟩
theorem ok14 : compF planOf Try.prog 14 = some ⟨68, [], d14.er⟩ := by kernel_rfl
/-- whetstone/nat.Cmp -/
def b15_0 : D := .seq (.reg [⟨some 5, none, .mv (.t 25)⟩]) (.kb [3, 4, 5, 26] (.reg [⟨some 6, none, .mv (.t 26)⟩]))
def b15_1 : D := .block 2 (.block 3 (.seq (.reg [⟨some 28, none, .mv (.t 6)⟩,
  ⟨some 29, none, .ld (.t 3)⟩,
  ⟨some 30, none, .mv (.t 5)⟩,
  ⟨some 31, none, .ia 1 (.t 29) (.t 30)⟩,
  ⟨some 32, none, .ld (.t 31)⟩,
  ⟨some 33, none, .bin .lss (.t 28) (.t 32)⟩,
  ⟨some 27, none, .mv (.t 33)⟩]) (.kb [3, 4, 5, 6, 27] (.cond (.t 27) (.seq (.reg [⟨none, none, .st 1 (.t 4) (.c (.int .i64 (-1)))⟩]) .ret) (.seq (.reg [⟨some 35, none, .mv (.t 6)⟩,
  ⟨some 36, none, .ld (.t 3)⟩,
  ⟨some 37, none, .mv (.t 5)⟩,
  ⟨some 38, none, .ia 1 (.t 36) (.t 37)⟩,
  ⟨some 39, none, .ld (.t 38)⟩,
  ⟨some 40, none, .bin .gtr (.t 35) (.t 39)⟩,
  ⟨some 34, none, .mv (.t 40)⟩]) (.kb [4, 34] (.cond (.t 34) (.seq (.reg [⟨none, none, .st 1 (.t 4) (.c (.int .i64 1))⟩]) .ret) .skip)))))))
def d15 : D := .seq (.reg [⟨some 3, none, .box (.t 1)⟩,
  ⟨some 4, none, .new [.int .i64 0]⟩]) (.kb [0, 3, 4] (.seq (.drw (.q ⟨some 7, none, .mv (.t 0)⟩ (.q ⟨some 9, none, .ld (.t 3)⟩ (.alt ⟨some 8, none, .call 13 [.t 7]⟩ [⟨some 9, none, .ld (.t 3)⟩] (.alt ⟨some 10, none, .call 13 [.t 9]⟩ [] (.alt ⟨some 0, none, .mv (.t 8)⟩ [] (.alt ⟨none, none, .st 1 (.t 3) (.t 10)⟩ [] (.done) (.stop)) (.stop)) (.stop)) (.stop))))) (.kb [0, 3, 4] (.seq (.block 0 (.seq (.reg [⟨some 12, none, .mv (.t 0)⟩,
  ⟨some 13, none, .llen (.t 12)⟩,
  ⟨some 14, none, .ld (.t 3)⟩,
  ⟨some 15, none, .llen (.t 14)⟩,
  ⟨some 16, none, .bin .lss (.t 13) (.t 15)⟩,
  ⟨some 11, none, .mv (.t 16)⟩]) (.kb [0, 3, 4, 11] (.cond (.t 11) (.seq (.reg [⟨none, none, .st 1 (.t 4) (.c (.int .i64 (-1)))⟩]) .ret) (.seq (.reg [⟨some 18, none, .mv (.t 0)⟩,
  ⟨some 19, none, .llen (.t 18)⟩,
  ⟨some 20, none, .ld (.t 3)⟩,
  ⟨some 21, none, .llen (.t 20)⟩,
  ⟨some 22, none, .bin .gtr (.t 19) (.t 21)⟩,
  ⟨some 17, none, .mv (.t 22)⟩]) (.kb [0, 3, 4, 17] (.cond (.t 17) (.seq (.reg [⟨none, none, .st 1 (.t 4) (.c (.int .i64 1))⟩]) .ret) .skip))))))) (.kb [0, 3, 4] (.seq (.seq (.reg [⟨some 23, none, .mv (.t 0)⟩,
  ⟨some 24, none, .call 24 [.t 23]⟩]) (.kb [3, 4, 24] (.block 1 (.rng (.t 24) [25, 26] b15_0 b15_1)))) (.kb [4] (.seq (.reg [⟨none, none, .st 1 (.t 4) (.c (.int .i64 0))⟩]) .ret))))))))
def f15 : FD := ⟨41, [.c 4 none], d15, .all⟩
theorem ok15 : compF planOf Try.prog 15 = some ⟨41, [.c 4 none], d15.er⟩ := by kernel_rfl
/-- whetstone/nat.short -/
def b16_0 : D := .seq (.reg [⟨some 8, none, .mv (.t 16)⟩]) (.kb [3, 6, 7, 8, 17] (.reg [⟨some 9, none, .mv (.t 17)⟩]))
def b16_1 : D := .block 1 (.seq (.reg [⟨some 18, none, .ld (.t 7)⟩,
  ⟨some 19, none, .bin .shl (.t 18) (.c (.int .u64 32))⟩,
  ⟨some 20, none, .mv (.t 9)⟩,
  ⟨some 21, none, .cvi .u64 (.t 20)⟩,
  ⟨some 22, none, .bin .or (.t 19) (.t 21)⟩,
  ⟨some 10, none, .mv (.t 22)⟩]) (.kb [3, 6, 7, 8, 10] (.drw (.q ⟨some 23, none, .ld (.t 6)⟩ (.q ⟨some 24, none, .mv (.t 8)⟩ (.q ⟨some 25, none, .mv (.t 10)⟩ (.q ⟨some 26, none, .ld (.t 3)⟩ (.q ⟨some 27, none, .cvi .u64 (.t 26)⟩ (.q ⟨some 28, none, .bin .quo (.t 25) (.t 27)⟩ (.q ⟨some 29, none, .cvi .u32 (.t 28)⟩ (.q ⟨some 30, none, .mv (.t 10)⟩ (.q ⟨some 31, none, .ld (.t 3)⟩ (.q ⟨some 32, none, .cvi .u64 (.t 31)⟩ (.q ⟨some 33, none, .bin .rem (.t 30) (.t 32)⟩ (.q ⟨some 34, none, .ia 1 (.t 23) (.t 24)⟩ (.alt ⟨none, none, .st 1 (.t 34) (.t 29)⟩ [⟨some 31, none, .ld (.t 3)⟩] (.alt ⟨none, none, .st 1 (.t 7) (.t 33)⟩ [] (.done) (.stop)) (.stop)))))))))))))))))
def d16 : D := .seq (.reg [⟨some 3, none, .box (.t 1)⟩,
  ⟨some 4, none, .mv (.c (.nils))⟩,
  ⟨some 5, none, .mv (.c (.int .u32 0))⟩]) (.kb [0, 3] (.seq (.reg [⟨some 11, none, .mv (.t 0)⟩,
  ⟨some 12, none, .llen (.t 11)⟩,
  ⟨some 13, none, .mksl 4 [.int .u32 0] (.t 12) (.t 12)⟩,
  ⟨some 6, none, .new [.nils]⟩,
  ⟨none, none, .st 1 (.t 6) (.t 13)⟩]) (.kb [0, 3, 6] (.seq (.reg [⟨some 7, none, .new [.int .u64 0]⟩,
  ⟨none, none, .st 1 (.t 7) (.c (.int .u64 0))⟩]) (.kb [0, 3, 6, 7] (.seq (.seq (.reg [⟨some 14, none, .mv (.t 0)⟩,
  ⟨some 15, none, .call 24 [.t 14]⟩]) (.kb [3, 6, 7, 15] (.block 0 (.rng (.t 15) [16, 17] b16_0 b16_1)))) (.kb [6, 7] (.seq (.drw (.q ⟨some 35, none, .ld (.t 6)⟩ (.q ⟨some 37, none, .ld (.t 7)⟩ (.q ⟨some 38, none, .cvi .u32 (.t 37)⟩ (.alt ⟨some 36, none, .call 13 [.t 35]⟩ [⟨some 37, none, .ld (.t 7)⟩] (.q ⟨some 4, none, .mv (.t 36)⟩ (.q ⟨some 5, none, .mv (.t 38)⟩ (.done))) (.stop)))))) .ret))))))))
def f16 : FD := ⟨39, [.t 4, .t 5], d16, .raw⟩
theorem ok16 : compF planOf Try.prog 16 = some ⟨39, [.t 4, .t 5], d16.er⟩ := by kernel_rfl
/-- whetstone/nat.Of -/
def d17 : D := .seq (.reg [⟨some 2, none, .mv (.c (.nils))⟩]) (.kb [0] (.seq (.reg [⟨some 3, none, .mv (.t 0)⟩,
  ⟨some 4, none, .cvi .u32 (.t 3)⟩,
  ⟨some 5, none, .mv (.t 0)⟩,
  ⟨some 6, none, .bin .shr (.t 5) (.c (.int .u64 32))⟩,
  ⟨some 7, none, .cvi .u32 (.t 6)⟩,
  ⟨some 8, none, .bslice [.int .u32 0] 2 [(0, .t 4), (1, .t 7)]⟩,
  ⟨some 9, none, .call 7 [.t 8]⟩,
  ⟨some 2, none, .mv (.t 9)⟩]) .ret))
def f17 : FD := ⟨10, [.t 2], d17, .raw⟩
theorem ok17 : compF planOf Try.prog 17 = some ⟨10, [.t 2], d17.er⟩ := by kernel_rfl
/-- math/bits.LeadingZeros32 -/
def d18 : D := .seq (.reg [⟨some 2, none, .mv (.c (.int .i64 0))⟩]) (.kb [0] (.seq (.reg [⟨some 3, none, .mv (.t 0)⟩,
  ⟨some 4, none, .call 25 [.t 3]⟩,
  ⟨some 5, none, .bin .sub (.c (.int .i64 32)) (.t 4)⟩,
  ⟨some 2, none, .mv (.t 5)⟩]) .ret))
def f18 : FD := ⟨6, [.t 2], d18, .all⟩
theorem ok18 : compF planOf Try.prog 18 = some ⟨6, [.t 2], d18.er⟩ := by kernel_rfl
/-- whetstone/nat.left -/
def b19_0 : D := .seq (.reg [⟨some 16, none, .bin .lss (.t 15) (.t 14)⟩]) (.kb [1, 5, 13, 14, 15, 16] (.seq (.cond (.t 16) .skip (.exit 0)) (.kb [1, 5, 13, 14, 15] (.seq (.block 1 (.seq (.reg [⟨some 17, none, .mv (.t 15)⟩,
  ⟨some 18, none, .ia 1 (.t 13) (.t 15)⟩,
  ⟨some 19, none, .ld (.t 18)⟩,
  ⟨some 6, none, .mv (.t 17)⟩,
  ⟨some 7, none, .mv (.t 19)⟩]) (.kb [1, 5, 6, 7, 13, 14, 15] (.seq (.reg [⟨some 20, none, .mv (.t 7)⟩,
  ⟨some 21, none, .cvi .u64 (.t 20)⟩,
  ⟨some 22, none, .mv (.t 1)⟩,
  ⟨some 23, none, .bin .shl (.t 21) (.t 22)⟩,
  ⟨some 8, none, .mv (.t 23)⟩]) (.kb [1, 5, 6, 8, 13, 14, 15] (.seq (.reg [⟨some 24, none, .mv (.t 5)⟩,
  ⟨some 25, none, .mv (.t 6)⟩,
  ⟨some 26, none, .ia 1 (.t 24) (.t 25)⟩,
  ⟨some 27, none, .ld (.t 26)⟩,
  ⟨some 28, none, .mv (.t 8)⟩,
  ⟨some 29, none, .cvi .u32 (.t 28)⟩,
  ⟨some 30, none, .bin .or (.t 27) (.t 29)⟩,
  ⟨some 31, none, .ia 1 (.t 24) (.t 25)⟩,
  ⟨none, none, .st 1 (.t 31) (.t 30)⟩]) (.kb [1, 5, 6, 8, 13, 14, 15] (.reg [⟨some 32, none, .mv (.t 5)⟩,
  ⟨some 33, none, .mv (.t 6)⟩,
  ⟨some 34, none, .bin .add (.t 33) (.c (.int .i64 1))⟩,
  ⟨some 35, none, .mv (.t 8)⟩,
  ⟨some 36, none, .bin .shr (.t 35) (.c (.int .u64 32))⟩,
  ⟨some 37, none, .cvi .u32 (.t 36)⟩,
  ⟨some 38, none, .ia 1 (.t 32) (.t 34)⟩,
  ⟨none, none, .st 1 (.t 38) (.t 37)⟩])))))))) (.kb [1, 5, 13, 14, 15] (.reg [⟨some 39, none, .bin .add (.t 15) (.c (.int .i64 1))⟩,
  ⟨some 15, none, .mv (.t 39)⟩]))))))
def d19 : D := .seq (.reg [⟨some 4, none, .mv (.c (.nils))⟩]) (.kb [0, 1] (.seq (.reg [⟨some 9, none, .mv (.t 0)⟩,
  ⟨some 10, none, .llen (.t 9)⟩,
  ⟨some 11, none, .bin .add (.t 10) (.c (.int .i64 1))⟩,
  ⟨some 12, none, .mksl 4 [.int .u32 0] (.t 11) (.t 11)⟩,
  ⟨some 5, none, .mv (.t 12)⟩]) (.kb [0, 1, 5] (.seq (.seq (.reg [⟨some 13, none, .mv (.t 0)⟩,
  ⟨some 14, none, .llen (.t 13)⟩,
  ⟨some 15, none, .mv (.c (.int .i64 0))⟩]) (.kb [1, 5, 13, 14, 15] (.block 0 (.loop [1, 5, 13, 14, 15] b19_0)))) (.kb [5] (.seq (.reg [⟨some 40, none, .mv (.t 5)⟩,
  ⟨some 4, none, .mv (.t 40)⟩]) .ret))))))
def f19 : FD := ⟨41, [.t 4], d19, .raw⟩
theorem ok19 : compF planOf Try.prog 19 = some ⟨41, [.t 4], d19.er⟩ := by kernel_rfl
/-- whetstone/nat.guess -/
def b20_0 : D := .seq (.seq (.drw (.q ⟨some 46, none, .mv (.t 9)⟩ (.q ⟨some 47, none, .bin .geq (.t 46) (.c (.int .u64 4294967296))⟩ (.q ⟨some 48, none, .mv (.t 47)⟩ (.q ⟨some 49, some (48, false), .mv (.t 9)⟩ (.q ⟨some 50, some (48, false), .mv (.t 2)⟩ (.q ⟨some 51, some (48, false), .mv (.t 7)⟩ (.q ⟨some 52, some (48, false), .bin .sub (.t 51) (.c (.int .i64 2))⟩ (.q ⟨some 53, some (48, false), .ia 1 (.t 50) (.t 52)⟩ (.q ⟨some 54, some (48, false), .ld (.t 53)⟩ (.q ⟨some 55, some (48, false), .cvi .u64 (.t 54)⟩ (.q ⟨some 56, some (48, false), .bin .mul (.t 49) (.t 55)⟩ (.q ⟨some 57, some (48, false), .mv (.t 10)⟩ (.q ⟨some 58, some (48, false), .bin .shl (.t 57) (.c (.int .u64 32))⟩ (.q ⟨some 59, some (48, false), .mv (.t 0)⟩ (.q ⟨some 60, some (48, false), .mv (.t 1)⟩ (.q ⟨some 61, some (48, false), .mv (.t 7)⟩ (.q ⟨some 62, some (48, false), .bin .add (.t 60) (.t 61)⟩ (.q ⟨some 63, some (48, false), .bin .sub (.t 62) (.c (.int .i64 2))⟩ (.q ⟨some 64, some (48, false), .ia 1 (.t 59) (.t 63)⟩ (.q ⟨some 65, some (48, false), .ld (.t 64)⟩ (.q ⟨some 66, some (48, false), .cvi .u64 (.t 65)⟩ (.q ⟨some 67, some (48, false), .bin .or (.t 58) (.t 66)⟩ (.q ⟨some 68, some (48, false), .bin .gtr (.t 56) (.t 67)⟩ (.q ⟨some 69, none, .pick (.t 48) (.c (.bool true)) (.t 68)⟩ (.done)))))))))))))))))))))))))) (.kb [0, 1, 2, 7, 9, 10, 69] (.cond (.t 69) .skip (.exit 0)))) (.kb [0, 1, 2, 7, 9, 10] (.block 1 (.seq (.reg [⟨some 70, none, .mv (.t 9)⟩,
  ⟨some 71, none, .bin .sub (.t 70) (.c (.int .u64 1))⟩,
  ⟨some 9, none, .mv (.t 71)⟩]) (.kb [0, 1, 2, 7, 9, 10] (.seq (.reg [⟨some 72, none, .mv (.t 10)⟩,
  ⟨some 73, none, .mv (.t 2)⟩,
  ⟨some 74, none, .mv (.t 7)⟩,
  ⟨some 75, none, .bin .sub (.t 74) (.c (.int .i64 1))⟩,
  ⟨some 76, none, .ia 1 (.t 73) (.t 75)⟩,
  ⟨some 77, none, .ld (.t 76)⟩,
  ⟨some 78, none, .cvi .u64 (.t 77)⟩,
  ⟨some 79, none, .bin .add (.t 72) (.t 78)⟩,
  ⟨some 10, none, .mv (.t 79)⟩]) (.kb [0, 1, 2, 7, 9, 10] (.seq (.reg [⟨some 80, none, .mv (.t 10)⟩,
  ⟨some 81, none, .bin .geq (.t 80) (.c (.int .u64 4294967296))⟩]) (.kb [0, 1, 2, 7, 9, 10, 81] (.cond (.t 81) (.exit 0) .skip)))))))))
def d20 : D := .seq (.reg [⟨some 6, none, .mv (.c (.int .u64 0))⟩]) (.kb [0, 1, 2] (.seq (.reg [⟨some 11, none, .mv (.t 2)⟩,
  ⟨some 12, none, .llen (.t 11)⟩,
  ⟨some 7, none, .mv (.t 12)⟩]) (.kb [0, 1, 2, 7] (.seq (.drw (.q ⟨some 13, none, .mv (.t 0)⟩ (.q ⟨some 14, none, .mv (.t 1)⟩ (.q ⟨some 15, none, .mv (.t 7)⟩ (.q ⟨some 16, none, .bin .add (.t 14) (.t 15)⟩ (.q ⟨some 17, none, .ia 1 (.t 13) (.t 16)⟩ (.q ⟨some 18, none, .ld (.t 17)⟩ (.q ⟨some 19, none, .cvi .u64 (.t 18)⟩ (.q ⟨some 20, none, .bin .shl (.t 19) (.c (.int .u64 32))⟩ (.q ⟨some 21, none, .mv (.t 0)⟩ (.q ⟨some 22, none, .mv (.t 1)⟩ (.q ⟨some 23, none, .mv (.t 7)⟩ (.q ⟨some 24, none, .bin .add (.t 22) (.t 23)⟩ (.q ⟨some 25, none, .bin .sub (.t 24) (.c (.int .i64 1))⟩ (.q ⟨some 26, none, .ia 1 (.t 21) (.t 25)⟩ (.q ⟨some 27, none, .ld (.t 26)⟩ (.q ⟨some 28, none, .cvi .u64 (.t 27)⟩ (.q ⟨some 29, none, .bin .or (.t 20) (.t 28)⟩ (.q ⟨some 8, none, .mv (.t 29)⟩ (.done)))))))))))))))))))) (.kb [0, 1, 2, 7, 8] (.seq (.drw (.q ⟨some 30, none, .mv (.t 8)⟩ (.q ⟨some 31, none, .mv (.t 2)⟩ (.q ⟨some 32, none, .mv (.t 7)⟩ (.q ⟨some 33, none, .bin .sub (.t 32) (.c (.int .i64 1))⟩ (.q ⟨some 34, none, .ia 1 (.t 31) (.t 33)⟩ (.q ⟨some 35, none, .ld (.t 34)⟩ (.q ⟨some 36, none, .cvi .u64 (.t 35)⟩ (.q ⟨some 37, none, .bin .quo (.t 30) (.t 36)⟩ (.q ⟨some 38, none, .mv (.t 8)⟩ (.q ⟨some 39, none, .mv (.t 2)⟩ (.q ⟨some 40, none, .mv (.t 7)⟩ (.q ⟨some 41, none, .bin .sub (.t 40) (.c (.int .i64 1))⟩ (.q ⟨some 42, none, .ia 1 (.t 39) (.t 41)⟩ (.q ⟨some 43, none, .ld (.t 42)⟩ (.q ⟨some 44, none, .cvi .u64 (.t 43)⟩ (.q ⟨some 45, none, .bin .rem (.t 38) (.t 44)⟩ (.q ⟨some 9, none, .mv (.t 37)⟩ (.q ⟨some 10, none, .mv (.t 45)⟩ (.done)))))))))))))))))))) (.kb [0, 1, 2, 7, 9, 10] (.seq (.block 0 (.loop [0, 1, 2, 7, 9, 10] b20_0)) (.kb [9] (.seq (.reg [⟨some 82, none, .mv (.t 9)⟩,
  ⟨some 6, none, .mv (.t 82)⟩]) .ret))))))))))
def f20 : FD := ⟨83, [.t 6], d20, .all⟩
theorem ok20 : compF planOf Try.prog 20 = some ⟨83, [.t 6], d20.er⟩ := by kernel_rfl
/-- whetstone/nat.lower -/
def b21_0 : D := .seq (.reg [⟨some 19, none, .bin .lss (.t 18) (.t 17)⟩]) (.kb [0, 1, 2, 3, 9, 10, 16, 17, 18, 19] (.seq (.cond (.t 19) .skip (.exit 0)) (.kb [0, 1, 2, 3, 9, 10, 16, 17, 18] (.seq (.block 1 (.seq (.reg [⟨some 20, none, .mv (.t 18)⟩,
  ⟨some 21, none, .ia 1 (.t 16) (.t 18)⟩,
  ⟨some 22, none, .ld (.t 21)⟩,
  ⟨some 11, none, .mv (.t 20)⟩,
  ⟨some 12, none, .mv (.t 22)⟩]) (.kb [0, 1, 2, 3, 9, 10, 11, 12, 16, 17, 18] (.seq (.reg [⟨some 23, none, .mv (.t 2)⟩,
  ⟨some 24, none, .mv (.t 12)⟩,
  ⟨some 25, none, .cvi .u64 (.t 24)⟩,
  ⟨some 26, none, .bin .mul (.t 23) (.t 25)⟩,
  ⟨some 27, none, .mv (.t 10)⟩,
  ⟨some 28, none, .bin .add (.t 26) (.t 27)⟩,
  ⟨some 13, none, .mv (.t 28)⟩]) (.kb [0, 1, 2, 3, 9, 11, 13, 16, 17, 18] (.seq (.reg [⟨some 29, none, .mv (.t 13)⟩,
  ⟨some 30, none, .bin .shr (.t 29) (.c (.int .u64 32))⟩,
  ⟨some 10, none, .mv (.t 30)⟩]) (.kb [0, 1, 2, 3, 9, 10, 11, 13, 16, 17, 18] (.seq (.reg [⟨some 31, none, .mv (.t 0)⟩,
  ⟨some 32, none, .mv (.t 11)⟩,
  ⟨some 33, none, .mv (.t 1)⟩,
  ⟨some 34, none, .bin .add (.t 32) (.t 33)⟩,
  ⟨some 35, none, .ia 1 (.t 31) (.t 34)⟩,
  ⟨some 36, none, .ld (.t 35)⟩,
  ⟨some 37, none, .cvi .u64 (.t 36)⟩,
  ⟨some 38, none, .mv (.t 13)⟩,
  ⟨some 39, none, .bin .and (.t 38) (.c (.int .u64 4294967295))⟩,
  ⟨some 40, none, .bin .sub (.t 37) (.t 39)⟩,
  ⟨some 41, none, .mv (.t 9)⟩,
  ⟨some 42, none, .bin .sub (.t 40) (.t 41)⟩,
  ⟨some 14, none, .mv (.t 42)⟩]) (.kb [0, 1, 2, 3, 10, 11, 14, 16, 17, 18] (.reg [⟨some 43, none, .mv (.t 0)⟩,
  ⟨some 44, none, .mv (.t 11)⟩,
  ⟨some 45, none, .mv (.t 1)⟩,
  ⟨some 46, none, .bin .add (.t 44) (.t 45)⟩,
  ⟨some 47, none, .mv (.t 14)⟩,
  ⟨some 48, none, .cvi .u32 (.t 47)⟩,
  ⟨some 49, none, .mv (.t 14)⟩,
  ⟨some 50, none, .bin .shr (.t 49) (.c (.int .u64 63))⟩,
  ⟨some 51, none, .ia 1 (.t 43) (.t 46)⟩,
  ⟨none, none, .st 1 (.t 51) (.t 48)⟩,
  ⟨some 9, none, .mv (.t 50)⟩])))))))))) (.kb [0, 1, 2, 3, 9, 10, 16, 17, 18] (.reg [⟨some 52, none, .bin .add (.t 18) (.c (.int .i64 1))⟩,
  ⟨some 18, none, .mv (.t 52)⟩]))))))
def d21 : D := .seq (.reg [⟨some 8, none, .mv (.c (.bool false))⟩]) (.kb [0, 1, 2, 3] (.seq (.reg [⟨some 9, none, .mv (.c (.int .u64 0))⟩,
  ⟨some 10, none, .mv (.c (.int .u64 0))⟩]) (.kb [0, 1, 2, 3, 9, 10] (.seq (.seq (.reg [⟨some 16, none, .mv (.t 3)⟩,
  ⟨some 17, none, .llen (.t 16)⟩,
  ⟨some 18, none, .mv (.c (.int .i64 0))⟩]) (.kb [0, 1, 2, 3, 9, 10, 16, 17, 18] (.block 0 (.loop [0, 1, 2, 3, 9, 10, 16, 17, 18] b21_0)))) (.kb [0, 1, 3, 9, 10] (.seq (.reg [⟨some 53, none, .mv (.t 0)⟩,
  ⟨some 54, none, .mv (.t 1)⟩,
  ⟨some 55, none, .mv (.t 3)⟩,
  ⟨some 56, none, .llen (.t 55)⟩,
  ⟨some 57, none, .bin .add (.t 54) (.t 56)⟩,
  ⟨some 58, none, .ia 1 (.t 53) (.t 57)⟩,
  ⟨some 59, none, .ld (.t 58)⟩,
  ⟨some 60, none, .cvi .u64 (.t 59)⟩,
  ⟨some 61, none, .mv (.t 10)⟩,
  ⟨some 62, none, .bin .sub (.t 60) (.t 61)⟩,
  ⟨some 63, none, .mv (.t 9)⟩,
  ⟨some 64, none, .bin .sub (.t 62) (.t 63)⟩,
  ⟨some 15, none, .mv (.t 64)⟩]) (.kb [0, 1, 3, 15] (.seq (.reg [⟨some 65, none, .mv (.t 0)⟩,
  ⟨some 66, none, .mv (.t 1)⟩,
  ⟨some 67, none, .mv (.t 3)⟩,
  ⟨some 68, none, .llen (.t 67)⟩,
  ⟨some 69, none, .bin .add (.t 66) (.t 68)⟩,
  ⟨some 70, none, .mv (.t 15)⟩,
  ⟨some 71, none, .cvi .u32 (.t 70)⟩,
  ⟨some 72, none, .ia 1 (.t 65) (.t 69)⟩,
  ⟨none, none, .st 1 (.t 72) (.t 71)⟩]) (.kb [15] (.seq (.reg [⟨some 73, none, .mv (.t 15)⟩,
  ⟨some 74, none, .bin .shr (.t 73) (.c (.int .u64 63))⟩,
  ⟨some 75, none, .bin .eql (.t 74) (.c (.int .u64 1))⟩,
  ⟨some 8, none, .mv (.t 75)⟩]) .ret))))))))))
def f21 : FD := ⟨76, [.t 8], d21, .raw⟩
theorem ok21 : compF planOf Try.prog 21 = some ⟨76, [.t 8], d21.er⟩ := by kernel_rfl
/-- whetstone/nat.raise -/
def b22_0 : D := .seq (.reg [⟨some 12, none, .bin .lss (.t 11) (.t 10)⟩]) (.kb [0, 1, 2, 6, 9, 10, 11, 12] (.seq (.cond (.t 12) .skip (.exit 0)) (.kb [0, 1, 2, 6, 9, 10, 11] (.seq (.block 1 (.seq (.reg [⟨some 13, none, .mv (.t 11)⟩,
  ⟨some 14, none, .ia 1 (.t 9) (.t 11)⟩,
  ⟨some 15, none, .ld (.t 14)⟩,
  ⟨some 7, none, .mv (.t 13)⟩,
  ⟨some 8, none, .mv (.t 15)⟩]) (.kb [0, 1, 2, 6, 7, 8, 9, 10, 11] (.reg [⟨some 17, none, .mv (.t 0)⟩,
  ⟨some 18, none, .mv (.t 7)⟩,
  ⟨some 19, none, .mv (.t 1)⟩,
  ⟨some 20, none, .bin .add (.t 18) (.t 19)⟩,
  ⟨some 21, none, .mv (.t 0)⟩,
  ⟨some 22, none, .mv (.t 7)⟩,
  ⟨some 23, none, .mv (.t 1)⟩,
  ⟨some 24, none, .bin .add (.t 22) (.t 23)⟩,
  ⟨some 25, none, .ia 1 (.t 21) (.t 24)⟩,
  ⟨some 26, none, .ld (.t 25)⟩,
  ⟨some 27, none, .mv (.t 8)⟩,
  ⟨some 28, none, .mv (.t 6)⟩,
  ⟨some 29, none, .call 12 [.t 26, .t 27, .t 28]⟩,
  ⟨some 16, none, .mv (.t 29)⟩,
  ⟨some 30, none, .ext (.t 16) 0⟩,
  ⟨some 31, none, .ext (.t 16) 1⟩,
  ⟨some 32, none, .ia 1 (.t 17) (.t 20)⟩,
  ⟨none, none, .st 1 (.t 32) (.t 30)⟩,
  ⟨some 6, none, .mv (.t 31)⟩])))) (.kb [0, 1, 2, 6, 9, 10, 11] (.reg [⟨some 33, none, .bin .add (.t 11) (.c (.int .i64 1))⟩,
  ⟨some 11, none, .mv (.t 33)⟩]))))))
def d22 : D := .seq (.reg [⟨some 6, none, .mv (.c (.int .u32 0))⟩]) (.kb [0, 1, 2, 6] (.seq (.seq (.reg [⟨some 9, none, .mv (.t 2)⟩,
  ⟨some 10, none, .llen (.t 9)⟩,
  ⟨some 11, none, .mv (.c (.int .i64 0))⟩]) (.kb [0, 1, 2, 6, 9, 10, 11] (.block 0 (.loop [0, 1, 2, 6, 9, 10, 11] b22_0)))) (.kb [0, 1, 2, 6] (.reg [⟨some 34, none, .mv (.t 0)⟩,
  ⟨some 35, none, .mv (.t 1)⟩,
  ⟨some 36, none, .mv (.t 2)⟩,
  ⟨some 37, none, .llen (.t 36)⟩,
  ⟨some 38, none, .bin .add (.t 35) (.t 37)⟩,
  ⟨some 39, none, .ia 1 (.t 34) (.t 38)⟩,
  ⟨some 40, none, .ld (.t 39)⟩,
  ⟨some 41, none, .mv (.t 6)⟩,
  ⟨some 42, none, .bin .add (.t 40) (.t 41)⟩,
  ⟨some 43, none, .ia 1 (.t 34) (.t 38)⟩,
  ⟨none, none, .st 1 (.t 43) (.t 42)⟩]))))
def f22 : FD := ⟨44, [], d22, .raw⟩
theorem ok22 : compF planOf Try.prog 22 = some ⟨44, [], d22.er⟩ := by kernel_rfl
/-- whetstone/nat.right -/
def b23_0 : D := .seq (.reg [⟨some 14, none, .bin .lss (.t 13) (.t 12)⟩]) (.kb [0, 1, 5, 12, 13, 14] (.seq (.cond (.t 14) .skip (.exit 0)) (.kb [0, 1, 5, 12, 13] (.seq (.block 1 (.seq (.reg [⟨some 15, none, .mv (.t 13)⟩,
  ⟨some 6, none, .mv (.t 15)⟩]) (.kb [0, 1, 5, 6, 12, 13] (.seq (.reg [⟨some 16, none, .mv (.t 0)⟩,
  ⟨some 17, none, .mv (.t 6)⟩,
  ⟨some 18, none, .ia 1 (.t 16) (.t 17)⟩,
  ⟨some 19, none, .ld (.t 18)⟩,
  ⟨some 20, none, .cvi .u64 (.t 19)⟩,
  ⟨some 7, none, .mv (.t 20)⟩]) (.kb [0, 1, 5, 6, 7, 12, 13] (.seq (.seq (.reg [⟨some 21, none, .mv (.t 6)⟩,
  ⟨some 22, none, .bin .add (.t 21) (.c (.int .i64 1))⟩,
  ⟨some 23, none, .mv (.t 0)⟩,
  ⟨some 24, none, .llen (.t 23)⟩,
  ⟨some 25, none, .bin .lss (.t 22) (.t 24)⟩]) (.kb [0, 1, 5, 6, 7, 12, 13, 25] (.cond (.t 25) (.reg [⟨some 26, none, .mv (.t 7)⟩,
  ⟨some 27, none, .mv (.t 0)⟩,
  ⟨some 28, none, .mv (.t 6)⟩,
  ⟨some 29, none, .bin .add (.t 28) (.c (.int .i64 1))⟩,
  ⟨some 30, none, .ia 1 (.t 27) (.t 29)⟩,
  ⟨some 31, none, .ld (.t 30)⟩,
  ⟨some 32, none, .cvi .u64 (.t 31)⟩,
  ⟨some 33, none, .bin .shl (.t 32) (.c (.int .u64 32))⟩,
  ⟨some 34, none, .bin .or (.t 26) (.t 33)⟩,
  ⟨some 7, none, .mv (.t 34)⟩]) .skip))) (.kb [0, 1, 5, 6, 7, 12, 13] (.reg [⟨some 35, none, .mv (.t 5)⟩,
  ⟨some 36, none, .mv (.t 6)⟩,
  ⟨some 37, none, .mv (.t 7)⟩,
  ⟨some 38, none, .mv (.t 1)⟩,
  ⟨some 39, none, .bin .shr (.t 37) (.t 38)⟩,
  ⟨some 40, none, .cvi .u32 (.t 39)⟩,
  ⟨some 41, none, .ia 1 (.t 35) (.t 36)⟩,
  ⟨none, none, .st 1 (.t 41) (.t 40)⟩])))))))) (.kb [0, 1, 5, 12, 13] (.reg [⟨some 42, none, .bin .add (.t 13) (.c (.int .i64 1))⟩,
  ⟨some 13, none, .mv (.t 42)⟩]))))))
def d23 : D := .seq (.reg [⟨some 4, none, .mv (.c (.nils))⟩]) (.kb [0, 1] (.seq (.reg [⟨some 8, none, .mv (.t 0)⟩,
  ⟨some 9, none, .llen (.t 8)⟩,
  ⟨some 10, none, .mksl 4 [.int .u32 0] (.t 9) (.t 9)⟩,
  ⟨some 5, none, .mv (.t 10)⟩]) (.kb [0, 1, 5] (.seq (.seq (.reg [⟨some 11, none, .mv (.t 0)⟩,
  ⟨some 12, none, .llen (.t 11)⟩,
  ⟨some 13, none, .mv (.c (.int .i64 0))⟩]) (.kb [0, 1, 5, 12, 13] (.block 0 (.loop [0, 1, 5, 12, 13] b23_0)))) (.kb [5] (.seq (.reg [⟨some 43, none, .mv (.t 5)⟩,
  ⟨some 44, none, .call 13 [.t 43]⟩,
  ⟨some 4, none, .mv (.t 44)⟩]) .ret))))))
def f23 : FD := ⟨45, [.t 4], d23, .raw⟩
theorem ok23 : compF planOf Try.prog 23 = some ⟨45, [.t 4], d23.er⟩ := by kernel_rfl
/-- whetstone/nat.limbs -/
def d24 : D := .seq (.reg [⟨some 1, none, .box (.t 0)⟩,
  ⟨some 2, none, .mv (.c (.nilf))⟩]) (.kb [1] (.seq (.reg [⟨some 3, none, .mkf (.func 26) [] [.t 1]⟩,
  ⟨some 2, none, .mv (.t 3)⟩]) .ret))
def f24 : FD := ⟨4, [.t 2], d24, .raw⟩
theorem ok24 : compF planOf Try.prog 24 = some ⟨4, [.t 2], d24.er⟩ := by kernel_rfl
/-- math/bits.Len32 -/
def d25 : D := .seq (.reg [⟨some 2, none, .mv (.c (.int .i64 0))⟩]) (.kb [0, 2] (.seq (.seq (.reg [⟨some 3, none, .mv (.t 0)⟩,
  ⟨some 4, none, .bin .geq (.t 3) (.c (.int .u32 65536))⟩]) (.kb [0, 2, 4] (.cond (.t 4) (.seq (.reg [⟨some 5, none, .mv (.t 0)⟩,
  ⟨some 6, none, .bin .shr (.t 5) (.c (.int .u64 16))⟩,
  ⟨some 0, none, .mv (.t 6)⟩]) (.kb [0] (.reg [⟨some 2, none, .mv (.c (.int .i64 16))⟩]))) .skip))) (.kb [0, 2] (.seq (.seq (.reg [⟨some 7, none, .mv (.t 0)⟩,
  ⟨some 8, none, .bin .geq (.t 7) (.c (.int .u32 256))⟩]) (.kb [0, 2, 8] (.cond (.t 8) (.seq (.reg [⟨some 9, none, .mv (.t 0)⟩,
  ⟨some 10, none, .bin .shr (.t 9) (.c (.int .u64 8))⟩,
  ⟨some 0, none, .mv (.t 10)⟩]) (.kb [0, 2] (.reg [⟨some 11, none, .mv (.t 2)⟩,
  ⟨some 12, none, .bin .add (.t 11) (.c (.int .i64 8))⟩,
  ⟨some 2, none, .mv (.t 12)⟩]))) .skip))) (.kb [0, 2] (.seq (.reg [⟨some 13, none, .mv (.t 2)⟩,
  ⟨some 14, none, .mv (.t 0)⟩,
  ⟨some 15, none, .cvi .u8 (.t 14)⟩,
  ⟨some 16, none, .sx (.c (.str [0, 1, 2, 2, 3, 3, 3, 3, 4, 4, 4, 4, 4, 4, 4, 4, 5, 5, 5, 5, 5, 5, 5, 5, 5, 5, 5, 5, 5, 5, 5, 5, 6, 6, 6, 6, 6, 6, 6, 6, 6, 6, 6, 6, 6, 6, 6, 6, 6, 6, 6, 6, 6, 6, 6, 6, 6, 6, 6, 6, 6, 6, 6, 6, 7, 7, 7, 7, 7, 7, 7, 7, 7, 7, 7, 7, 7, 7, 7, 7, 7, 7, 7, 7, 7, 7, 7, 7, 7, 7, 7, 7, 7, 7, 7, 7, 7, 7, 7, 7, 7, 7, 7, 7, 7, 7, 7, 7, 7, 7, 7, 7, 7, 7, 7, 7, 7, 7, 7, 7, 7, 7, 7, 7, 7, 7, 7, 7, 8, 8, 8, 8, 8, 8, 8, 8, 8, 8, 8, 8, 8, 8, 8, 8, 8, 8, 8, 8, 8, 8, 8, 8, 8, 8, 8, 8, 8, 8, 8, 8, 8, 8, 8, 8, 8, 8, 8, 8, 8, 8, 8, 8, 8, 8, 8, 8, 8, 8, 8, 8, 8, 8, 8, 8, 8, 8, 8, 8, 8, 8, 8, 8, 8, 8, 8, 8, 8, 8, 8, 8, 8, 8, 8, 8, 8, 8, 8, 8, 8, 8, 8, 8, 8, 8, 8, 8, 8, 8, 8, 8, 8, 8, 8, 8, 8, 8, 8, 8, 8, 8, 8, 8, 8, 8, 8, 8, 8, 8, 8, 8, 8, 8, 8, 8, 8, 8, 8, 8, 8, 8, 8, 8, 8, 8, 8, 8])) (.t 15)⟩,
  ⟨some 17, none, .cvi .i64 (.t 16)⟩,
  ⟨some 18, none, .bin .add (.t 13) (.t 17)⟩,
  ⟨some 2, none, .mv (.t 18)⟩]) .ret))))))
def f25 : FD := ⟨19, [.t 2], d25, .all⟩
theorem ok25 : compF planOf Try.prog 25 = some ⟨19, [.t 2], d25.er⟩ := by kernel_rfl
/-- whetstone/nat.limbs$1 -/
def b26_0 : D := .seq (.seq (.reg [⟨some 7, none, .mv (.t 3)⟩,
  ⟨some 8, none, .bin .geq (.t 7) (.c (.int .i64 0))⟩]) (.kb [0, 1, 3, 8] (.cond (.t 8) .skip (.exit 0)))) (.kb [0, 1, 3] (.seq (.block 1 (.seq (.reg [⟨some 11, none, .mv (.t 0)⟩,
  ⟨some 12, none, .mv (.t 3)⟩,
  ⟨some 13, none, .ld (.t 1)⟩,
  ⟨some 14, none, .mv (.t 3)⟩,
  ⟨some 15, none, .ia 1 (.t 13) (.t 14)⟩,
  ⟨some 16, none, .ld (.t 15)⟩,
  ⟨some 17, none, .callv (.t 11) [.t 12, .t 16]⟩,
  ⟨some 18, none, .un .not (.t 17)⟩]) (.kb [0, 1, 3, 18] (.cond (.t 18) .ret .skip)))) (.kb [0, 1, 3] (.reg [⟨some 9, none, .mv (.t 3)⟩,
  ⟨some 10, none, .bin .sub (.t 9) (.c (.int .i64 1))⟩,
  ⟨some 3, none, .mv (.t 10)⟩]))))
def d26 : D := .seq (.reg [⟨some 4, none, .ld (.t 1)⟩,
  ⟨some 5, none, .llen (.t 4)⟩,
  ⟨some 6, none, .bin .sub (.t 5) (.c (.int .i64 1))⟩,
  ⟨some 3, none, .mv (.t 6)⟩]) (.kb [0, 1, 3] (.block 0 (.loop [0, 1, 3] b26_0)))
def f26 : FD := ⟨19, [], d26, .all⟩
theorem ok26 : compF planOf Try.prog 26 = some ⟨19, [], d26.er⟩ := by kernel_rfl
def T : FuncId → Option FD
  | 3 => some f3
  | 4 => some f4
  | 5 => some f5
  | 6 => some f6
  | 7 => some f7
  | 8 => some f8
  | 9 => some f9
  | 10 => some f10
  | 11 => some f11
  | 12 => some f12
  | 13 => some f13
  | 14 => some f14
  | 15 => some f15
  | 16 => some f16
  | 17 => some f17
  | 18 => some f18
  | 19 => some f19
  | 20 => some f20
  | 21 => some f21
  | 22 => some f22
  | 23 => some f23
  | 24 => some f24
  | 25 => some f25
  | 26 => some f26
  | _ => none
theorem T_ok : ∀ k fd, T k = some fd → compF planOf Try.prog k = some ⟨fd.nt, fd.res, fd.body.er⟩ ∧ hasBody Try.prog k = true := by
  intro k fd h
  unfold T at h
  split at h <;> simp only [Option.some.injEq, reduceCtorEq] at h <;> subst h
  · exact ⟨ok3, by kernel_rfl⟩
  · exact ⟨ok4, by kernel_rfl⟩
  · exact ⟨ok5, by kernel_rfl⟩
  · exact ⟨ok6, by kernel_rfl⟩
  · exact ⟨ok7, by kernel_rfl⟩
  · exact ⟨ok8, by kernel_rfl⟩
  · exact ⟨ok9, by kernel_rfl⟩
  · exact ⟨ok10, by kernel_rfl⟩
  · exact ⟨ok11, by kernel_rfl⟩
  · exact ⟨ok12, by kernel_rfl⟩
  · exact ⟨ok13, by kernel_rfl⟩
  · exact ⟨ok14, by kernel_rfl⟩
  · exact ⟨ok15, by kernel_rfl⟩
  · exact ⟨ok16, by kernel_rfl⟩
  · exact ⟨ok17, by kernel_rfl⟩
  · exact ⟨ok18, by kernel_rfl⟩
  · exact ⟨ok19, by kernel_rfl⟩
  · exact ⟨ok20, by kernel_rfl⟩
  · exact ⟨ok21, by kernel_rfl⟩
  · exact ⟨ok22, by kernel_rfl⟩
  · exact ⟨ok23, by kernel_rfl⟩
  · exact ⟨ok24, by kernel_rfl⟩
  · exact ⟨ok25, by kernel_rfl⟩
  · exact ⟨ok26, by kernel_rfl⟩
end Go.Proofs.Yticpkoakbneefaa
namespace Go.Proofs.Yticpkoakbneefaa.Ab
open Go.RowKit
set_option linter.unusedVariables false
set_option linter.unusedSimpArgs false
/-! Slices: what they read as. -/
/-- An element's address. -/
def elA : V → Nat → V
  | .islc _ es, i => match es[i]? with | some e => .iptr e 0 | none => .any
  | .slc l off _, i => .ptr l (off + i) 0
  | _, _ => .any
def cutV : V → Nat → Nat → V
  | .islc z es, a, b => .islc z ((es.take b).drop a)
  | .slc p off _, a, b => .slc p (off + a) (b - a)
  | v, _, _ => v
/-- It reads as these elements. -/
def Rd (σ : St) (z : Nat) (v : V) (es : List (List V)) : Prop := cont σ z v = some es
section
variable {σ σ' : St} {z : Nat} {v : V} {es : List (List V)}
theorem Rd.inv (h : Rd σ z v es) : (v = .nils ∧ es = []) ∨ (v = .islc z es) ∨ (∃ l off rows, v = .slc l off es.length ∧ σ.H l = some (.row z rows) ∧ off + es.length ≤ rows.length ∧ es = (rows.drop off).take es.length) := by
  unfold Rd cont at h
  split at h
  · exact .inl ⟨rfl, by simpa using h.symm⟩
  · split at h
    · rename_i hz; simp at h; exact .inr (.inl (by rw [hz, h]))
    · simp at h
  · split at h
    · split at h
      · rename_i l off len _ z' rows hl hc
        simp at h
        have hlen : es.length = len := by rw [← h]; simp; omega
        refine .inr (.inr ⟨l, off, rows, by rw [hlen], by rw [hl, hc.1], by omega, by rw [hlen]; exact h.symm⟩)
      · simp at h
    · simp at h
  · simp at h
theorem Rd.len (h : Rd σ z v es) : lenV v = some (.int .i64 es.length) := by
  rcases h.inv with ⟨rfl, rfl⟩ | rfl | ⟨l, off, rows, rfl, _⟩ <;> rfl
theorem Rd.at (h : Rd σ z v es) {k : IntKind} {i : Nat} (hi : i < es.length) : iaV σ z v (.int k i) = some (elA v i) := by
  rcases h.inv with ⟨rfl, rfl⟩ | rfl | ⟨l, off, rows, rfl, h1, h2, h3⟩
  · simp at hi
  · simp [iaV, elA, hi]
  · simp [iaV, elA, h1, hi]
theorem Rd.ld (h : Rd σ z v es) {i j : Nat} {e : List V} (he : es[i]? = some e) : (faV j (elA v i)).bind (ldV σ) = e[j]? := by
  have hi : i < es.length := (List.getElem?_eq_some_iff.1 he).1
  rcases h.inv with ⟨rfl, rfl⟩ | rfl | ⟨l, off, rows, rfl, h1, h2, h3⟩
  · simp at he
  · simp [elA, he]
  · have : rows[off + i]? = some e := by
      rw [h3, List.getElem?_take, List.getElem?_drop] at he
      simpa [hi] using he
    simp [elA, h1, this]
/-- An element's cells: their addresses. -/
def celA (v : V) (i j : Nat) : V := (faV j (elA v i)).getD .any
theorem Rd.fa (h : Rd σ z v es) {i j : Nat} (hi : i < es.length) : faV j (elA v i) = some (celA v i j) := by
  rcases h.inv with ⟨rfl, rfl⟩ | rfl | ⟨l, off, rows, rfl, h1, h2, h3⟩
  · simp at hi
  · simp [elA, celA, hi]
  · simp [elA, celA]
theorem Rd.cel (h : Rd σ z v es) {i j : Nat} {e : List V} (he : es[i]? = some e) : ldV σ (celA v i j) = e[j]? := by
  have := h.ld (j := j) he
  rw [h.fa (List.getElem?_eq_some_iff.1 he).1] at this
  exact this
theorem Rd.el (h : Rd σ z v es) {i : Nat} {e : List V} (he : es[i]? = some e) : ldV σ (elA v i) = e[0]? := by
  have := h.cel (j := 0) he
  have h0 : celA v i 0 = elA v i := by
    have hi := (List.getElem?_eq_some_iff.1 he).1
    rcases h.inv with ⟨rfl, rfl⟩ | rfl | ⟨l, off, rows, rfl, h1, h2, h3⟩
    · simp at hi
    · simp [celA, elA, hi]
    · simp [celA, elA]
  rw [h0] at this; exact this
theorem Rd.cut (h : Rd σ z v es) {a b : Nat} (hab : a ≤ b) (hb : b ≤ es.length) : Rd σ z (cutV v a b) ((es.take b).drop a) := by
  rcases h.inv with ⟨rfl, rfl⟩ | rfl | ⟨l, off, rows, rfl, h1, h2, h3⟩
  · simp at hb; subst hb; simp [Rd, cutV, cont]
  · simp [Rd, cutV, cont]
  · unfold Rd cutV cont
    simp only [h1]
    rw [if_pos (⟨trivial, by omega⟩ : True ∧ _)]
    rw [h3, List.take_take, Nat.min_eq_left hb, List.drop_take, List.drop_drop]
theorem Rd.lsl (h : Rd σ z v es) {env : Env} {lo hi : Option Opd} {a b : Nat} (hl : bound env 0 lo = some a) (hh : bound env es.length hi = some b) (hab : a ≤ b) (hb : b ≤ es.length) : lslV env σ z v lo hi = some (cutV v a b) := by
  rcases h.inv with ⟨rfl, rfl⟩ | rfl | ⟨l, off, rows, rfl, h1, h2, h3⟩
  · simp at hb; subst hb
    simp at hab; subst hab
    simp only [List.length_nil] at hh
    simp [lslV, hl, hh, cutV]
  · simp [lslV, hl, hh, cutV, hab, hb]
  · simp only [lslV, hl, hh, cutV, h1, Option.bind_some]
    rw [if_pos ⟨trivial, hab, by omega⟩]
theorem Rd.mono (h : Rd σ z v es) (hH : ∀ l off len, v = .slc l off len → σ'.H l = σ.H l) : Rd σ' z v es := by
  rcases h.inv with ⟨rfl, rfl⟩ | rfl | ⟨l, off, rows, rfl, h1, h2, h3⟩
  · rfl
  · simp [Rd, cont]
  · unfold Rd cont at *
    simp only [hH l off _ rfl]
    exact h
/-! Slices that are one's own, up to their rows' ends. -/
/-- The row of a slice. -/
def V.row : V → Option Nat
  | .slc l _ _ => some l
  | _ => none
def Sl (σ : St) (z : Nat) (v : V) (es : List (List V)) : Prop :=
  (v = .nils ∧ es = []) ∨ ∃ l, v = .slc l 0 es.length ∧ σ.H l = some (.row z es)
theorem Sl.rd (h : Sl σ z v es) : Rd σ z v es := by
  rcases h with ⟨rfl, rfl⟩ | ⟨l, rfl, h⟩
  · rfl
  · simp [Rd, cont, h]
theorem Sl.mono (h : Sl σ z v es) (hH : ∀ l, v.row = some l → σ'.H l = σ.H l) : Sl σ' z v es := by
  rcases h with ⟨rfl, rfl⟩ | ⟨l, rfl, h⟩
  · exact .inl ⟨rfl, rfl⟩
  · exact .inr ⟨l, rfl, by rw [hH l rfl]; exact h⟩
theorem srcOf_rd {v : V} {es : List (List V)} (h : Rd σ z v es) : srcOf σ z v = some es := by
  rcases h.inv with ⟨rfl, rfl⟩ | rfl | ⟨l, off, rows, rfl, h1, h2, h3⟩ <;> exact h
/-- What the store is when a slice has grown. -/
def grown (σ : St) (v : V) : St :=
  match v with
  | .slc l _ _ => σ.kill l
  | _ => σ
@[simp] theorem grown_n (σ : St) (v : V) : (grown σ v).n = σ.n := by cases v <;> rfl
@[simp] theorem grown_W (σ : St) (v : V) : (grown σ v).W = σ.W := by cases v <;> rfl
theorem grown_H (σ : St) (v : V) (l : Nat) : (grown σ v).H l = if v.row = some l then none else σ.H l := by
  cases v <;> simp [grown, V.row, eq_comm]
theorem Sl.app (h : Sl σ z v es) {y : V} {ys : List (List V)} (hy : srcOf σ z y = some ys) (hne : ys ≠ []) {bytes : Nat} (hb : (es.length + ys.length) * bytes ≤ reach) (hr : es.length + ys.length ≤ reach) :
    appV σ bytes z v y = some (.slc σ.n 0 (es.length + ys.length), (grown σ v).new (.row z (es ++ ys))) := by
  have hl : 0 < ys.length := List.length_pos_iff.2 hne
  rcases h with ⟨rfl, rfl⟩ | ⟨l, rfl, h⟩
  · simp at hb hr
    simp [appV, hy, hne, hb, hr, grown]
  · simp [appV, hy, hne, hb, hr, h, grown]
    omega
theorem Sl.app0 (h : Sl σ z v es) {y : V} (hy : srcOf σ z y = some []) {bytes : Nat} : appV σ bytes z v y = some (v, σ) := by
  rcases h with ⟨rfl, rfl⟩ | ⟨l, rfl, h⟩ <;> simp [appV, hy]
theorem vT {p : Prop} [Decidable p] (h : p) : V.bool (decide p) = .bool true := by rw [decide_eq_true h]
theorem vF {p : Prop} [Decidable p] (h : ¬ p) : V.bool (decide p) = .bool false := by rw [decide_eq_false h]
/-! Slices of bytes. -/
theorem u8n {c : UInt8} {n : Nat} (h : n < 256) : ((c.toNat : Int) = n) ↔ c = UInt8.ofNat n := by
  constructor
  · intro e
    apply UInt8.toNat_inj.1
    simp
    omega
  · rintro rfl
    simp
    omega
def Bs (σ : St) (v : V) (s : List UInt8) : Prop := Rd σ 1 v (s.map byteE)
variable {s : List UInt8}
theorem Bs.len (h : Bs σ v s) : lenV v = some (.int .i64 s.length) := by simpa using Rd.len h
theorem Bs.at (h : Bs σ v s) {k : IntKind} {i : Nat} (hi : i < s.length) : iaV σ 1 v (.int k i) = some (elA v i) := Rd.at h (by simpa using hi)
theorem Bs.at0 (h : Bs σ v s) {k : IntKind} (hi : 0 < s.length) : iaV σ 1 v (.int k 0) = some (elA v 0) := h.at (i := 0) hi
theorem Bs.ld (h : Bs σ v s) {i : Nat} {c : UInt8} (hi : s[i]? = some c) : ldV σ (elA v i) = some (.int .u8 c.toNat) := by
  have := Rd.el h (i := i) (e := byteE c) (by simp [hi])
  simpa [byteE] using this
theorem Bs.cut (h : Bs σ v s) {a b : Nat} (hab : a ≤ b) (hb : b ≤ s.length) : Bs σ (cutV v a b) ((s.take b).drop a) := by
  have := Rd.cut h hab (by simpa using hb)
  simpa [Bs] using this
theorem Bs.lsl (h : Bs σ v s) {env : Env} {lo hi : Option Opd} {a b : Nat} (hl : bound env 0 lo = some a) (hh : bound env s.length hi = some b) (hab : a ≤ b) (hb : b ≤ s.length) : lslV env σ 1 v lo hi = some (cutV v a b) :=
  Rd.lsl h hl (by simpa using hh) hab (by simpa using hb)
theorem Bs.lslTo (h : Bs σ v s) {env : Env} {hi : Opd} {b : Nat} {k : IntKind} (hh : hi.ev env = .int k b) (hb : b ≤ s.length) : lslV env σ 1 v none (some hi) = some (cutV v 0 b) :=
  h.lsl (by simp) (by simp [hh]) (by omega) hb
theorem Bs.lslFrom (h : Bs σ v s) {env : Env} {lo : Opd} {a : Nat} {k : IntKind} (hh : lo.ev env = .int k a) (ha : a ≤ s.length) : lslV env σ 1 v (some lo) none = some (cutV v a s.length) :=
  h.lsl (by simp [hh]) (by simp) ha (by omega)
theorem Bs.lslBoth (h : Bs σ v s) {env : Env} {lo hi : Opd} {a b : Nat} {k k' : IntKind} (hl : lo.ev env = .int k a) (hh : hi.ev env = .int k' b) (hab : a ≤ b) (hb : b ≤ s.length) : lslV env σ 1 v (some lo) (some hi) = some (cutV v a b) :=
  h.lsl (by simp [hl]) (by simp [hh]) hab hb
theorem Bs.b2s (h : Bs σ v s) : ((cont σ 1 v).bind fun es => (es.mapM byteOf).map V.str) = some (.str s) := by
  have h' : cont σ 1 v = some (s.map byteE) := h
  rw [h']
  simp only [Option.bind_some]
  have : (s.map byteE).mapM byteOf = some s := by
    clear h h'
    induction s with
    | nil => rfl
    | cons c s ih =>
      have hc : byteOf (byteE c) = some c := by
        simp only [byteE, byteOf]
        rw [if_pos ⟨by omega, by have := c.toNat_lt; omega⟩]
        simp
      simp [List.mapM_cons, hc, ih]
  rw [this]; rfl
theorem Bs.mono (h : Bs σ v s) (hH : ∀ l off len, v = .slc l off len → σ'.H l = σ.H l) : Bs σ' v s := Rd.mono h hH
theorem Rd.scal (h : Rd σ z v es) : v.scal = true := by
  rcases h.inv with ⟨rfl, rfl⟩ | rfl | ⟨l, off, rows, rfl, h1, h2, h3⟩ <;> rfl
theorem Sl.scal (h : Sl σ z v es) : v.scal = true := h.rd.scal
end
/-! Ends of calls. -/
section
variable (H : Nat → Option Blk) (n : Nat → Bool)
theorem frzC_pure : ∀ (k : Nat) {v : V}, v.pure = true → frzC H n k v = v
  | 0, v, h => by simp [frzC, h]
  | k + 1, v, h => by
    have ih : ∀ {v : V}, v.pure = true → frzC H n k v = v := fun h => frzC_pure k h
    show frzS H n (frzC H n k) v = v
    cases v <;> (try rfl) <;> (try (simp [V.pure] at h; done))
    case func fn a b =>
      simp only [V.pure, Bool.and_eq_true, List.isEmpty_iff] at h
      obtain ⟨rfl, rfl⟩ := h; rfl
    case iface t v =>
      have hv : v.pure = true := by cases v <;> simp_all [V.pure]
      show V.iface t _ = _
      congr 1
      cases v <;> (try exact ih hv)
      simp [V.pure] at hv
theorem frz_list {vs : List V} (h : ∀ v ∈ vs, v.pure = true) (k : Nat) : vs.map (frzC H n k) = vs := by
  conv => rhs; rw [← List.map_id vs]
  exact List.map_congr_left fun v hv => frzC_pure H n k (h v hv)
theorem frz_rows {es : List (List V)} (h : ∀ e ∈ es, ∀ v ∈ e, v.pure = true) (k : Nat) : es.map (·.map (frzC H n k)) = es := by
  conv => rhs; rw [← List.map_id es]
  exact List.map_congr_left fun e he => frz_list H n (h e he) k
variable (v : V) (vs : List V) (k : IntKind) (i : Int) (b : Bool) (t : List UInt8)
@[simp] theorem frzO_ret : frzO H n (.ret v) = .ret (frzV H n v) := rfl
@[simp] theorem frzO_pan : frzO H n (.panic v) = .panic (frzV H n v) := rfl
@[simp] theorem frzV_int : frzV H n (.int k i) = .int k i := rfl
@[simp] theorem frzV_bool : frzV H n (.bool b) = .bool b := rfl
@[simp] theorem frzV_str : frzV H n (.str t) = .str t := rfl
@[simp] theorem frzV_nilp : frzV H n .nilp = .nilp := rfl
@[simp] theorem frzV_nils : frzV H n .nils = .nils := rfl
@[simp] theorem frzV_islc (z : Nat) (es : List (List V)) : frzV H n (.islc z es) = .islc z es := rfl
@[simp] theorem frzV_slc (l o m : Nat) : frzV H n (.slc l o m) = frzC H n 4 (.slc l o m) := rfl
@[simp] theorem frzV_ptr (l i j : Nat) : frzV H n (.ptr l i j) = frzC H n 4 (.ptr l i j) := rfl
@[simp] theorem frzV_agg : frzV H n (.agg vs) = .agg (vs.map (frzC H n 4)) := rfl
@[simp] theorem frzV_tup : frzV H n (.tup vs) = .tup (vs.map (frzA H n)) := rfl
@[simp] theorem frzV_iface (ty : TypeId) : frzV H n (.iface ty v) = frzC H n 4 (.iface ty v) := rfl
@[simp] theorem frzA_int : frzA H n (.int k i) = .int k i := rfl
@[simp] theorem frzA_bool : frzA H n (.bool b) = .bool b := rfl
@[simp] theorem frzA_str : frzA H n (.str t) = .str t := rfl
@[simp] theorem frzA_nilp : frzA H n .nilp = .nilp := rfl
@[simp] theorem frzA_nils : frzA H n .nils = .nils := rfl
@[simp] theorem frzA_islc (z : Nat) (es : List (List V)) : frzA H n (.islc z es) = .islc z es := rfl
@[simp] theorem frzA_slc (l o m : Nat) : frzA H n (.slc l o m) = frzC H n 4 (.slc l o m) := rfl
@[simp] theorem frzA_ptr (l i j : Nat) : frzA H n (.ptr l i j) = frzC H n 4 (.ptr l i j) := rfl
@[simp] theorem frzA_agg : frzA H n (.agg vs) = .agg (vs.map (frzC H n 4)) := rfl
@[simp] theorem frzC_int (m : Nat) : frzC H n (m + 1) (.int k i) = .int k i := rfl
@[simp] theorem frzC_bool (m : Nat) : frzC H n (m + 1) (.bool b) = .bool b := rfl
@[simp] theorem frzC_str (m : Nat) : frzC H n (m + 1) (.str t) = .str t := rfl
@[simp] theorem frzC_nilp (m : Nat) : frzC H n (m + 1) .nilp = .nilp := rfl
@[simp] theorem frzC_nils (m : Nat) : frzC H n (m + 1) .nils = .nils := rfl
@[simp] theorem frzC_islc (m z : Nat) (es : List (List V)) : frzC H n (m + 1) (.islc z es) = .islc z es := rfl
@[simp] theorem frzC_iptr (m j : Nat) (es : List V) : frzC H n (m + 1) (.iptr es j) = .iptr es j := rfl
/-- A slice of a row that is not kept. -/
theorem frz_slc {l off len z : Nat} {es : List (List V)} (m : Nat) (hl : n l = false) (hH : H l = some (.row z es)) (ho : off + len ≤ es.length) (hp : ∀ e ∈ es, ∀ v ∈ e, v.pure = true) : frzC H n (m + 1) (.slc l off len) = .islc z ((es.drop off).take len) := by
  show frzS H n (frzC H n m) (.slc l off len) = _
  have hp' : ∀ e ∈ (es.drop off).take len, ∀ v ∈ e, v.pure = true := fun e he => hp e (List.mem_of_mem_drop (List.mem_of_mem_take he))
  simp only [frzS, hl, hH, frz_rows H n hp' m]
  rw [if_neg (by simp), if_pos ⟨ho, List.all_eq_true.2 fun e he => List.all_eq_true.2 fun v hv => hp' e he v hv⟩]
theorem frz_old {l off len : Nat} (m : Nat) (hl : n l = true) : frzC H n (m + 1) (.slc l off len) = .slc l off len := by
  show frzS H n (frzC H n m) (.slc l off len) = _
  simp [frzS, hl]
theorem frz_oldp {l i j : Nat} (m : Nat) (hl : n l = true) : frzC H n (m + 1) (.ptr l i j) = .ptr l i j := by
  show frzS H n (frzC H n m) (.ptr l i j) = _
  simp [frzS, hl]
end
section
variable {P : Program} {E : En P} {k : FuncId} {fd : FD} {vs : List V} {σ σ' : St} {o o' : CO}
theorem ev_raw (h : E.T k = some fd) (hl : vs.length ≤ fd.nt) (hz : fd.fz = .raw) (hr : run E false fd.res [.d fd.body] ⟨envOf vs, []⟩ σ = some (o, σ')) : ev E k vs σ = some (o, σ') := by
  rw [ev_eq h hl, hr]; simp [cutR, hz]
/-- A call that changes nothing: what it hands back is told whole. -/
theorem ev_pure (h : E.T k = some fd) (hl : vs.length ≤ fd.nt) (hz : fd.fz = .all) (hr : run E false fd.res [.d fd.body] ⟨envOf vs, []⟩ σ = some (o, σ')) (hH : ∀ l, l < σ.n → σ'.H l = σ.H l) (hW : σ'.W = σ.W)
    (ho : frzO σ'.H (fun l => decide (l < σ.n)) o = o') : ev E k vs σ = some (o', σ) := by
  rw [ev_eq h hl, hr]; simp [cutR, hz, frz_same hH hW, ho]
/-- .. that makes nothing, too. -/
theorem ev_same (h : E.T k = some fd) (hl : vs.length ≤ fd.nt) (hz : fd.fz = .all) (hr : run E false fd.res [.d fd.body] ⟨envOf vs, []⟩ σ = some (o, σ)) (ho : frzO σ.H (fun l => decide (l < σ.n)) o = o') : ev E k vs σ = some (o', σ) :=
  ev_pure h hl hz hr (fun _ _ => rfl) rfl ho
/-- A call that turns one row. -/
theorem ev_set {p : Nat} {b : Blk} (h : E.T k = some fd) (hl : vs.length ≤ fd.nt) (hz : fd.fz = .all) (hr : run E false fd.res [.d fd.body] ⟨envOf vs, []⟩ σ = some (o, σ')) (hp : p < σ.n)
    (hb : (σ'.H p).map (frzB σ'.H fun l => decide (l < σ.n)) = some b) (hH : ∀ l, l < σ.n → l ≠ p → σ'.H l = σ.H l) (hW : σ'.W = σ.W) (hb' : σ'.H p = σ.H p → σ.H p = some b)
    (ho : frzO σ'.H (fun l => decide (l < σ.n)) o = o') : ev E k vs σ = some (o', σ.set p b) := by
  rw [ev_eq h hl, hr]; simp [cutR, hz, frz_set hp hb hH hW hb', ho]
end
end Go.Proofs.Yticpkoakbneefaa.Ab
namespace Go.Proofs.Yticpkoakbneefaa.Ab
open Go.RowKit
set_option linter.unusedVariables false
set_option linter.unusedSimpArgs false
/-! Loops: where they land. -/
section
variable {P : Program} {E : En P} {dd : Bool} {rs : List RC} {s : List SE}
theorem r_loopU {ts : List Nat} {B b : D} {f : Fr} {σ : St} (h : B = b) : run E dd rs (.d (.loop ts B) :: s) f σ = run E dd rs (.d b :: .lp ts B :: s) (kp ts f) σ := by rw [r_loop, h]
/-- The run comes to go on there. -/
def Lands (E : En P) (dd : Bool) (rs : List RC) (s : List SE) (Q : Fr → St → Prop) (r : Option (CO × St)) : Prop := ∃ f' σ', r = run E dd rs s f' σ' ∧ Q f' σ'
theorem Lands.use {Q : Fr → St → Prop} {r x : Option (CO × St)} (h : Lands E dd rs s Q r) (k : ∀ f' σ', Q f' σ' → run E dd rs s f' σ' = x) : r = x := by
  obtain ⟨f', σ', rfl, h⟩ := h; exact k f' σ' h
theorem Lands.to {C : Option (CO × St) → Prop} {Q : Fr → St → Prop} {r : Option (CO × St)} (h : Lands E dd rs s Q r) (k : ∀ f' σ', Q f' σ' → C (run E dd rs s f' σ')) : C r := by
  obtain ⟨f', σ', rfl, h⟩ := h; exact k f' σ' h
theorem Lands.here {Q : Fr → St → Prop} {f : Fr} {σ : St} (h : Q f σ) : Lands E dd rs s Q (run E dd rs s f σ) := ⟨f, σ, rfl, h⟩
theorem Lands.mono {Q Q' : Fr → St → Prop} {r : Option (CO × St)} (h : Lands E dd rs s Q r) (k : ∀ f' σ', Q f' σ' → Q' f' σ') : Lands E dd rs s Q' r := by
  obtain ⟨f', σ', e, h⟩ := h; exact ⟨f', σ', e, k f' σ' h⟩
section
variable {f : Fr} {σ : St} {e e' : Env} {ds : List AD} {m : Nat} {ps : List Nat} {asg body : D} {gf : FuncId} {cap : List V} {ky : V} {all : List (List V)} {i : Nat} {x : List V}
theorem rng_in (g : Opd) (hn : noRnd s = true) (hg : g.ev f.env = .func (.func gf) [] cap) (hI : E.It gf cap σ = some (ky, all)) :
    run E dd rs (.d (.rng g ps asg body) :: s) f σ = run E dd rs (.rnd f.env f.ds σ.n ps asg body gf cap ky all 0 :: s) f (σ.new (.lp .busy)) := r_rng E dd rs s f σ g ps asg body hn hg hI
theorem rnd_end (h : σ.H m = some (.lp .busy)) (hI : E.It gf cap (σ.set m (.lp .ready)) = some (ky, all)) (hi : all[i]? = none) :
    run E dd rs (.rnd e ds m ps asg body gf cap ky all i :: s) f σ = run E dd rs s ⟨e, .coll :: ds⟩ (σ.kill m) := r_rnd_end E dd rs s f σ h hI hi
theorem rnd_at {b : D} (hb : body = b) (h : σ.H m = some (.lp .busy)) (hI : E.It gf cap (σ.set m (.lp .ready)) = some (ky, all)) (hi : all[i]? = some x) (hl : x.length = ps.length) (he : asgM asg (setPs e ps x) = some e') :
    run E dd rs (.rnd e ds m ps asg body gf cap ky all i :: s) f σ = run E dd rs (.d b :: .rnd e ds m ps asg body gf cap ky all (i + 1) :: s) ⟨e', []⟩ σ := by
  rw [← hb, r_rnd_at E dd rs s f σ h hI hi hl (asgM_E _ _ _ _ he) (by simp [St.set, upd]), set_back h]
/-- A round that lays down more than moves. -/
theorem rnd_atS {σ1 : St} {b : D} (hb : body = b) (h : σ.H m = some (.lp .busy)) (hI : E.It gf cap (σ.set m (.lp .ready)) = some (ky, all)) (hi : all[i]? = some x) (hl : x.length = ps.length) (he : asgE asg (setPs e ps x) (σ.set m (.lp .ready)) = some (e', σ1)) (hr : σ1.H m = some (.lp .ready)) :
    run E dd rs (.rnd e ds m ps asg body gf cap ky all i :: s) f σ = run E dd rs (.d b :: .rnd e ds m ps asg body gf cap ky all (i + 1) :: s) ⟨e', []⟩ (σ1.set m (.lp .busy)) := by rw [← hb]; exact r_rnd_at E dd rs s f σ h hI hi hl he hr
end
open Classical in
theorem r_cks {f : Fr} {σ : St} (q : RI) (qs : List RI) : run E dd rs (.ck (q :: qs) :: s) f σ = if chk q f σ then run E dd rs (.ck qs :: s) f σ else none := by
  rw [run_eq]; show nxF E (run E) dd rs (stCk q qs s f σ) = _
  unfold stCk; split <;> rfl
theorem chk_x {f : Fr} {σ : St} (d : Nat) (i : Ins) : chk ⟨some d, none, i⟩ f σ = (evI f.env σ i = some (f.env d, σ)) := rfl
theorem chk_n {f : Fr} {σ : St} (g : Option (Nat × Bool)) (i : Ins) : chk ⟨none, g, i⟩ f σ = True := rfl
end
/-! Stores that have grown: what was there is as it was. -/
structure Gr (σ σ' : St) : Prop where
  n : σ.n ≤ σ'.n
  H : ∀ l, l < σ.n → σ'.H l = σ.H l
  W : σ'.W = σ.W
section
variable {σ σ' τ : St} {z : Nat} {v : V} {es : List (List V)} {s : List UInt8}
theorem Gr.refl (σ : St) : Gr σ σ := ⟨Nat.le_refl _, fun _ _ => rfl, rfl⟩
theorem Gr.trans (h : Gr σ σ') (k : Gr σ' τ) : Gr σ τ := ⟨Nat.le_trans h.n k.n, fun l hl => (k.H l (Nat.lt_of_lt_of_le hl h.n)).trans (h.H l hl), k.W.trans h.W⟩
theorem Gr.new (h : Gr σ σ') (b : Blk) : Gr σ (σ'.new b) := ⟨by have := h.n; simp; omega, fun l hl => by have := h.n; simp [show l ≠ σ'.n by omega, h.H l hl], h.W⟩
theorem Gr.set (h : Gr σ σ') {l : Nat} (hl : σ.n ≤ l) (b : Blk) : Gr σ (σ'.set l b) := ⟨h.n, fun k hk => by simp [show k ≠ l by omega, h.H k hk], h.W⟩
theorem Gr.kill (h : Gr σ σ') {l : Nat} (hl : σ.n ≤ l) : Gr σ (σ'.kill l) := ⟨h.n, fun k hk => by simp [show k ≠ l by omega, h.H k hk], h.W⟩
theorem Gr.grown (h : Gr σ σ') (hv : ∀ l, v.row = some l → σ.n ≤ l) : Gr σ (grown σ' v) := by
  cases v <;> (try exact h)
  exact h.kill (hv _ rfl)
theorem Gr.turn (h : Gr σ σ') {p : Nat} (hp : σ.n ≤ p) (hn : τ.n = σ'.n) (hW : τ.W = σ'.W) (hH : ∀ l, l ≠ p → τ.H l = σ'.H l) : Gr σ τ :=
  ⟨by rw [hn]; exact h.n, fun l hl => (hH l (by omega)).trans (h.H l hl), hW.trans h.W⟩
theorem Bs.str (h : Bs σ v s) : b2sV σ v = some (.str s) := Bs.b2s h
/-- Values whose rows are there. -/
def V.old (σ : St) (v : V) : Prop := ∀ l off len, v = .slc l off len → l < σ.n
theorem Rd.gr (h : Rd σ z v es) (g : Gr σ σ') (ho : v.old σ) : Rd σ' z v es := h.mono fun l off len e => g.H l (ho l off len e)
theorem Bs.gr (h : Bs σ v s) (g : Gr σ σ') (ho : v.old σ) : Bs σ' v s := Rd.gr h g ho
theorem V.old_islc (z : Nat) (es : List (List V)) : (V.islc z es).old σ := fun _ _ _ h => by simp at h
theorem V.old_nils : (V.nils).old σ := fun _ _ _ h => by simp at h
theorem V.old_cut (h : v.old σ) (a b : Nat) : (cutV v a b).old σ := by
  cases v <;> first | exact h | (intro l off len e; simp [cutV] at e; try exact h _ _ _ (by rw [e.1]) )
theorem V.old_gr (h : v.old σ) (g : Gr σ σ') : v.old σ' := fun l off len e => Nat.lt_of_lt_of_le (h l off len e) g.n
theorem Rd.lda (h : Rd σ z v es) {i m : Nat} {e : List V} (he : es[i]? = some e) (hm : m = e.length) : ldaV σ m (elA v i) = some (.agg e) := by
  subst hm
  have hi : i < es.length := (List.getElem?_eq_some_iff.1 he).1
  rcases h.inv with ⟨rfl, rfl⟩ | rfl | ⟨l, off, rows, rfl, h1, h2, h3⟩
  · simp at he
  · simp [elA, he]
  · have : rows[off + i]? = some e := by
      rw [h3, List.getElem?_take, List.getElem?_drop] at he
      simpa [hi] using he
    simp [elA, h1, this]
/-- A slice of one's own, told whole. -/
def told (z : Nat) (v : V) (es : List (List V)) : V := match v with
  | .nils => .nils
  | _ => .islc z es
theorem Sl.frz (h : Sl σ z v es) {n : Nat → Bool} (hn : ∀ l, v.row = some l → n l = false) (hp : ∀ e ∈ es, ∀ u ∈ e, u.pure = true) (m : Nat) : frzC σ.H n (m + 1) v = told z v es := by
  rcases h with ⟨rfl, rfl⟩ | ⟨l, rfl, h⟩
  · rfl
  · rw [frz_slc _ _ m (hn l rfl) h (by omega) hp]
    simp [told]
theorem told_is {z : Nat} {v : V} {es : List (List V)} (h : v ≠ .nils) : told z v es = .islc z es := by
  cases v <;> first | rfl | exact absurd rfl h
theorem told_rd (h : Sl σ z v es) : Rd σ' z (told z v es) es := by
  rcases h with ⟨rfl, rfl⟩ | ⟨l, rfl, h⟩
  · rfl
  · simp [told, Rd, cont]
/-- A slice of one's own, made since. -/
structure Own (σ0 σ : St) (z : Nat) (v : V) (es : List (List V)) : Prop where
  sl : Sl σ z v es
  gr : Gr σ0 σ
  lo : ∀ k, v.row = some k → σ0.n ≤ k ∧ k < σ.n
theorem Own.rd {σ0 σ : St} (h : Own σ0 σ z v es) : Rd σ z v es := h.sl.rd
theorem Own.old {σ0 σ : St} (h : Own σ0 σ z v es) : v.old σ := fun l off len e => (h.lo l (by rw [e]; rfl)).2
theorem Own.nils (σ : St) (z : Nat) : Own σ σ z .nils [] := ⟨.inl ⟨rfl, rfl⟩, .refl _, fun k h => by simp [V.row] at h⟩
theorem Own.new {σ0 σ : St} (g : Gr σ0 σ) (z : Nat) (es : List (List V)) {n : Nat} (hn : n = es.length) : Own σ0 (σ.new (.row z es)) z (.slc σ.n 0 n) es :=
  ⟨.inr ⟨σ.n, by rw [hn], by simp⟩, g.new _, fun k h => by simp [V.row] at h; subst h; exact ⟨g.n, by simp⟩⟩
theorem Own.step {σ0 σ τ : St} (h : Own σ0 σ z v es) (g : Gr σ τ) : Own σ0 τ z v es :=
  ⟨h.sl.mono fun l hl => g.H l (h.lo l hl).2, h.gr.trans g, fun k hk => ⟨(h.lo k hk).1, Nat.lt_of_lt_of_le (h.lo k hk).2 g.n⟩⟩
theorem Own.app {σ0 σ : St} (h : Own σ0 σ z v es) {y : V} {ys : List (List V)} (hy : srcOf σ z y = some ys) (hne : ys ≠ []) {bytes : Nat} (hb : (es.length + ys.length) * bytes ≤ reach) (hr : es.length + ys.length ≤ reach) :
    appV σ bytes z v y = some (.slc σ.n 0 (es.length + ys.length), (grown σ v).new (.row z (es ++ ys))) ∧ Own σ0 ((grown σ v).new (.row z (es ++ ys))) z (.slc σ.n 0 (es.length + ys.length)) (es ++ ys) := by
  refine ⟨h.sl.app hy hne hb hr, ?_⟩
  have := Own.new (σ0 := σ0) (σ := grown σ v) (h.gr.grown fun l hl => (h.lo l hl).1) z (es ++ ys) (n := es.length + ys.length) (by simp)
  simpa using this
theorem Own.base {σ0 σ1 σ : St} (h : Own σ1 σ z v es) (g : Gr σ0 σ1) : Own σ0 σ z v es := ⟨h.sl, g.trans h.gr, fun k hk => ⟨Nat.le_trans g.n (h.lo k hk).1, (h.lo k hk).2⟩⟩
/-- Some more, or none. -/
theorem Own.appA {σ0 σ : St} (h : Own σ0 σ z v es) {y : V} {ys : List (List V)} (hy : srcOf σ z y = some ys) {bytes : Nat} (hb : (es.length + ys.length) * bytes ≤ reach) (hr : es.length + ys.length ≤ reach) :
    ∃ u τ, appV σ bytes z v y = some (u, τ) ∧ Own σ0 τ z u (es ++ ys) ∧ (v ≠ .nils → u ≠ .nils) := by
  by_cases hne : ys = []
  · subst hne
    exact ⟨v, σ, h.sl.app0 hy, by simpa using h, id⟩
  · obtain ⟨h1, h2⟩ := h.app hy hne hb hr
    exact ⟨_, _, h1, h2, fun _ => by simp⟩
/-- One more, that was just made. -/
theorem Own.app1 {σ0 σ : St} (h : Own σ0 σ z v es) (ys : List (List V)) (hne : ys ≠ []) {bytes : Nat} (hb : (es.length + ys.length) * bytes ≤ reach) (hr : es.length + ys.length ≤ reach) {n : Nat} (hn : n = ys.length) :
    ∃ u τ, appV (σ.new (.row z ys)) bytes z v (.slc σ.n 0 n) = some (u, τ) ∧ Own σ0 τ z u (es ++ ys) := by
  subst hn
  have h' := h.step ((Gr.refl σ).new (.row z ys))
  exact ⟨_, _, h'.app (by simp [srcOf, cont]) hne hb hr⟩
theorem Own.app1N {σ0 σ : St} (h : Own σ0 σ z v es) (ys : List (List V)) (hne : ys ≠ []) {bytes : Nat} (hb : (es.length + ys.length) * bytes ≤ reach) (hr : es.length + ys.length ≤ reach) {n : Nat} (hn : n = ys.length) :
    ∃ u τ, appV (σ.new (.row z ys)) bytes z v (.slc σ.n 0 n) = some (u, τ) ∧ Own σ0 τ z u (es ++ ys) ∧ (∀ k, u.row = some k → σ.n ≤ k) ∧ σ.n ≤ τ.n ∧ (∀ l, l < σ.n → v.row ≠ some l → τ.H l = σ.H l) := by
  subst hn
  have h' := h.step ((Gr.refl σ).new (.row z ys))
  obtain ⟨h1, h2⟩ := h'.app (y := .slc σ.n 0 ys.length) (ys := ys) (by simp [srcOf, cont]) hne hb hr
  refine ⟨_, _, h1, h2, fun k hk => ?_, by simp; omega, fun l hl hv => ?_⟩
  · simp [V.row] at hk; omega
  · have e1 : l ≠ (grown (σ.new (.row z ys)) v).n := by simp; omega
    simp only [new_H, if_neg e1, grown_H, if_neg hv]
    simp [show l ≠ σ.n by omega]
theorem Own.frz {σ0 σ : St} (h : Own σ0 σ z v es) (hp : ∀ e ∈ es, ∀ u ∈ e, u.pure = true) (m : Nat) : frzC σ.H (fun l => decide (l < σ0.n)) (m + 1) v = told z v es :=
  h.sl.frz (fun l hl => by have := (h.lo l hl).1; simp; omega) hp m
theorem Own.frzV {σ0 σ : St} (h : Own σ0 σ z v es) (hp : ∀ e ∈ es, ∀ u ∈ e, u.pure = true) : frzV σ.H (fun l => decide (l < σ0.n)) v = told z v es := by
  have := h.frz hp 3
  rcases h.sl with ⟨rfl, rfl⟩ | ⟨l, rfl, h'⟩
  · rfl
  · simpa using this
theorem Own.told {σ0 σ τ : St} (h : Own σ0 σ z v es) : Rd τ z (told z v es) es := told_rd h.sl
/-- A slice that is told whole. -/
def Tl (z : Nat) (v : V) (es : List (List V)) : Prop := (v = .nils ∧ es = []) ∨ v = .islc z es
theorem Tl.rd {σ : St} (h : Tl z v es) : Rd σ z v es := by
  rcases h with ⟨rfl, rfl⟩ | rfl
  · rfl
  · simp [Rd, cont]
theorem Tl.old {σ : St} (h : Tl z v es) : v.old σ := by
  rcases h with ⟨rfl, _⟩ | rfl
  · exact V.old_nils
  · exact V.old_islc _ _
theorem Tl.nils (z : Nat) : Tl z .nils [] := .inl ⟨rfl, rfl⟩
theorem Tl.islc (z : Nat) (es : List (List V)) : Tl z (.islc z es) es := .inr rfl
theorem Tl.frz (h : Tl z v es) (H : Nat → Option Blk) (n : Nat → Bool) (m : Nat) : frzC H n (m + 1) v = v := by
  rcases h with ⟨rfl, _⟩ | rfl <;> rfl
theorem Tl.frzV (h : Tl z v es) (H : Nat → Option Blk) (n : Nat → Bool) : frzV H n v = v := by
  rcases h with ⟨rfl, _⟩ | rfl <;> rfl
theorem Tl.scal (h : Tl z v es) : v.scal = true := by rcases h with ⟨rfl, _⟩ | rfl <;> rfl
theorem Own.tl {σ0 σ : St} (h : Own σ0 σ z v es) : Tl z (Go.Proofs.Yticpkoakbneefaa.Ab.told z v es) es := by
  rcases h.sl with ⟨rfl, rfl⟩ | ⟨l, rfl, h⟩
  · exact .inl ⟨rfl, rfl⟩
  · exact .inr rfl
end
/-! Calls that hand back a new row by its name. -/
section
variable {P : Program} {E : En P} {k : FuncId} {fd : FD} {vs : List V} {σ σ' : St} {o o' : CO}
/-- One new row stays. -/
def St.add (σ : St) (p : Nat) (b : Blk) : St := ⟨fun l => if l = p then some b else σ.H l, p + 1, σ.W⟩
theorem add_gr {p : Nat} (hp : σ.n ≤ p) (b : Blk) : Gr σ (σ.add p b) := ⟨by simp [St.add]; omega, fun l hl => by simp [St.add, show l ≠ p by omega], rfl⟩
@[simp] theorem add_n {p : Nat} (b : Blk) : (σ.add p b).n = p + 1 := rfl
@[simp] theorem add_W {p : Nat} (b : Blk) : (σ.add p b).W = σ.W := rfl
@[simp] theorem add_H {p : Nat} (b : Blk) (l : Nat) : (σ.add p b).H l = if l = p then some b else σ.H l := rfl
theorem ev_own0 (h : E.T k = some fd) (hl : vs.length ≤ fd.nt) (hz : fd.fz = .own) (hr : run E false fd.res [.d fd.body] ⟨envOf vs, []⟩ σ = some (o, σ')) (hp : ptrs o = []) (hH : ∀ l, l < σ.n → σ'.H l = σ.H l) (hW : σ'.W = σ.W)
    (ho : frzO σ'.H (fun l => decide (l < σ.n)) o = o') : ev E k vs σ = some (o', σ) := by
  rw [ev_eq h hl, hr]
  simp only [cutR, hz, hp, Option.map_some, List.contains_nil, Bool.or_false, List.foldl_nil, frz_same hH hW, ho]
theorem ev_own1 (h : E.T k = some fd) (hl : vs.length ≤ fd.nt) (hz : fd.fz = .own) (hr : run E false fd.res [.d fd.body] ⟨envOf vs, []⟩ σ = some (o, σ')) {p : Nat} {b : Blk} (hp : ptrs o = [p]) (hn : σ.n ≤ p) (h0 : σ.H p = none)
    (hb : (σ'.H p).map (frzB σ'.H fun l => decide (l < σ.n) || [p].contains l) = some b) (hH : ∀ l, l < σ.n → σ'.H l = σ.H l) (hW : σ'.W = σ.W)
    (ho : frzO σ'.H (fun l => decide (l < σ.n) || [p].contains l) o = o') : ev E k vs σ = some (o', σ.add p b) := by
  rw [ev_eq h hl, hr]
  simp only [cutR, hz, hp, Option.map_some, ho, Option.some.injEq, Prod.mk.injEq, true_and]
  refine St.ext' (fun l => ?_) (by simp [St.frz]; omega) hW
  simp only [St.frz, add_H]
  by_cases e : l = p
  · subst e
    have hne : ¬ σ'.H l = σ.H l := fun e => by rw [e, h0] at hb; simp at hb
    simp [hne] at hb ⊢
    exact hb
  · by_cases hl : l < σ.n
    · simp [hl, e, hH l hl]
    · simp [hl, e]
end
end Go.Proofs.Yticpkoakbneefaa.Ab
