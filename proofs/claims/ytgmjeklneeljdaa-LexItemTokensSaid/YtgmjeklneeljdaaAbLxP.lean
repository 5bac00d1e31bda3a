/-
The program, told with what its values say. No further condition.
-/
import Derived.Test.YtgmjeklneeljdaaAbS
import Derived.Test.YtgmjeklneeljdaaProg
import Derived.KernelRfl
import Derived.IntWalk
namespace Go.Proofs.Ytgmjeklneeljdaa
open Go.Proofs.Ytgmjeklneeljdaa.Ab
set_option maxRecDepth 100000
/-- whetstone/whetstonelaw08.LexItems -/
def b3_0 : D := .reg [⟨some 7, none, .new [.int .i64 0, .int .i64 0]⟩,
  ⟨none, none, .st 2 (.t 7) (.t 24)⟩]
def b3_1 : D := .block 1 (.seq (.seq (.reg [⟨some 25, none, .ld (.t 6)⟩,
  ⟨some 26, none, .ld (.t 3)⟩,
  ⟨some 27, none, .bin .geq (.t 25) (.t 26)⟩]) (.kb [4, 5, 6, 7, 27] (.cond (.t 27) (.exit 0) .skip))) (.kb [4, 5, 6, 7] (.seq (.seq (.drw (.q ⟨some 28, none, .ld (.t 6)⟩ (.q ⟨some 29, none, .ld (.t 5)⟩ (.q ⟨some 30, none, .llen (.t 29)⟩ (.q ⟨some 31, none, .bin .geq (.t 28) (.t 30)⟩ (.q ⟨some 32, none, .mv (.t 31)⟩ (.q ⟨some 33, some (32, false), .lda 2 (.t 7)⟩ (.q ⟨some 34, some (32, false), .ld (.t 5)⟩ (.q ⟨some 35, some (32, false), .ld (.t 6)⟩ (.q ⟨some 36, some (32, false), .ia 2 (.t 34) (.t 35)⟩ (.q ⟨some 37, some (32, false), .lda 2 (.t 36)⟩ (.q ⟨some 38, some (32, false), .eqa true [.int, .int] (.t 33) (.t 37)⟩ (.q ⟨some 39, none, .pick (.t 32) (.c (.bool true)) (.t 38)⟩ (.done)))))))))))))) (.kb [4, 6, 39] (.cond (.t 39) (.seq (.reg [⟨none, none, .st 1 (.t 4) (.c (.bool false))⟩]) .ret) .skip))) (.kb [6] (.reg [⟨some 40, none, .ld (.t 6)⟩,
  ⟨some 41, none, .bin .add (.t 40) (.c (.int .i64 1))⟩,
  ⟨none, none, .st 1 (.t 6) (.t 41)⟩])))))
def d3 : D := .seq (.reg [⟨some 3, none, .box (.t 1)⟩,
  ⟨some 4, none, .new [.bool false]⟩]) (.kb [0, 3, 4] (.seq (.seq (.reg [⟨some 8, none, .call 5 []⟩,
  ⟨some 9, none, .un .not (.t 8)⟩,
  ⟨some 10, none, .mv (.t 9)⟩,
  ⟨some 11, some (10, false), .mv (.t 0)⟩,
  ⟨some 12, some (10, false), .llen (.t 11)⟩,
  ⟨some 13, some (10, false), .bin .gtr (.t 12) (.c (.int .i64 2000))⟩,
  ⟨some 14, none, .pick (.t 10) (.c (.bool true)) (.t 13)⟩]) (.kb [0, 3, 4, 14] (.cond (.t 14) (.seq (.reg [⟨some 15, none, .call 5 []⟩,
  ⟨none, none, .st 1 (.t 4) (.t 15)⟩]) .ret) .skip))) (.kb [0, 3, 4] (.seq (.reg [⟨some 16, none, .ld (.t 3)⟩,
  ⟨some 17, none, .cvi .u64 (.t 16)⟩,
  ⟨some 18, none, .bin .rem (.t 17) (.c (.int .u64 10))⟩,
  ⟨some 19, none, .cvi .i64 (.t 18)⟩,
  ⟨none, none, .st 1 (.t 3) (.t 19)⟩]) (.kb [0, 3, 4] (.seq (.reg [⟨some 20, none, .mv (.t 0)⟩,
  ⟨some 21, none, .call 6 [.t 20]⟩,
  ⟨some 5, none, .new [.nils]⟩,
  ⟨none, none, .st 1 (.t 5) (.t 21)⟩]) (.kb [0, 3, 4, 5] (.seq (.reg [⟨some 6, none, .new [.int .i64 0]⟩,
  ⟨none, none, .st 1 (.t 6) (.c (.int .i64 0))⟩]) (.kb [0, 3, 4, 5, 6] (.seq (.seq (.reg [⟨some 22, none, .mv (.t 0)⟩,
  ⟨some 23, none, .call 7 [.t 22]⟩]) (.kb [0, 3, 4, 5, 6, 23] (.block 0 (.rng (.t 23) [24] b3_0 b3_1)))) (.kb [0, 4, 5] (.seq (.drw (.alt ⟨some 42, none, .call 5 []⟩ [] (.q ⟨some 43, none, .mv (.t 42)⟩ (.q ⟨some 44, some (43, true), .mv (.t 0)⟩ (.q ⟨some 46, some (43, true), .ld (.t 5)⟩ (.alt ⟨some 45, some (43, true), .call 9 [.t 44]⟩ [⟨some 46, some (43, true), .ld (.t 5)⟩] (.alt ⟨some 47, some (43, true), .call 8 [.t 45, .t 46]⟩ [] (.q ⟨some 48, none, .pick (.t 43) (.t 47) (.c (.bool false))⟩ (.alt ⟨none, none, .st 1 (.t 4) (.t 48)⟩ [] (.done) (.stop))) (.stop)) (.stop))))) (.stop))) .ret))))))))))))
def f3 : FD := ⟨49, [.c 4 none], d3, .all⟩
theorem ok3 : compF planOf Try.prog 3 = some ⟨49, [.c 4 none], d3.er⟩ := by kernel_rfl
/-- whetstone/whetstonelaw08.LexItemTokens -/
def b4_0 : D := .seq (.seq (.reg [⟨some 85, none, .mv (.t 12)⟩,
  ⟨some 86, none, .mv (.t 9)⟩,
  ⟨some 87, none, .llen (.t 86)⟩,
  ⟨some 88, none, .bin .sub (.t 87) (.c (.int .i64 1))⟩,
  ⟨some 89, none, .bin .lss (.t 85) (.t 88)⟩]) (.kb [0, 3, 6, 7, 8, 9, 12, 89] (.cond (.t 89) .skip (.exit 2)))) (.kb [0, 3, 6, 7, 8, 9, 12] (.seq (.block 3 (.seq (.seq (.drw (.q ⟨some 92, none, .mv (.t 6)⟩ (.q ⟨some 93, none, .mv (.t 3)⟩ (.q ⟨some 94, none, .llen (.t 93)⟩ (.q ⟨some 95, none, .bin .geq (.t 92) (.t 94)⟩ (.q ⟨some 96, none, .mv (.t 95)⟩ (.q ⟨some 97, some (96, false), .mv (.t 9)⟩ (.q ⟨some 98, some (96, false), .mv (.t 12)⟩ (.q ⟨some 99, some (96, false), .ia 4 (.t 97) (.t 98)⟩ (.q ⟨some 100, some (96, false), .fa 1 (.t 99)⟩ (.q ⟨some 101, some (96, false), .ld (.t 100)⟩ (.q ⟨some 102, some (96, false), .mv (.t 3)⟩ (.q ⟨some 103, some (96, false), .mv (.t 6)⟩ (.q ⟨some 104, some (96, false), .ia 4 (.t 102) (.t 103)⟩ (.q ⟨some 105, some (96, false), .fa 1 (.t 104)⟩ (.q ⟨some 106, some (96, false), .ld (.t 105)⟩ (.q ⟨some 107, some (96, false), .bin .neq (.t 101) (.t 106)⟩ (.q ⟨some 108, none, .pick (.t 96) (.c (.bool true)) (.t 107)⟩ (.q ⟨some 109, none, .mv (.t 108)⟩ (.q ⟨some 110, some (109, false), .mv (.t 9)⟩ (.q ⟨some 111, some (109, false), .mv (.t 12)⟩ (.q ⟨some 112, some (109, false), .ia 4 (.t 110) (.t 111)⟩ (.q ⟨some 113, some (109, false), .fa 0 (.t 112)⟩ (.q ⟨some 114, some (109, false), .ld (.t 113)⟩ (.q ⟨some 115, some (109, false), .mv (.t 3)⟩ (.q ⟨some 116, some (109, false), .mv (.t 6)⟩ (.q ⟨some 117, some (109, false), .ia 4 (.t 115) (.t 116)⟩ (.q ⟨some 118, some (109, false), .fa 0 (.t 117)⟩ (.q ⟨some 119, some (109, false), .ld (.t 118)⟩ (.q ⟨some 120, some (109, false), .bin .neq (.t 114) (.t 119)⟩ (.q ⟨some 121, none, .pick (.t 109) (.c (.bool true)) (.t 120)⟩ (.q ⟨some 122, none, .mv (.t 121)⟩ (.q ⟨some 123, some (122, false), .mv (.t 9)⟩ (.q ⟨some 124, some (122, false), .mv (.t 12)⟩ (.q ⟨some 125, some (122, false), .ia 4 (.t 123) (.t 124)⟩ (.q ⟨some 126, some (122, false), .fa 2 (.t 125)⟩ (.q ⟨some 127, some (122, false), .fa 0 (.t 126)⟩ (.q ⟨some 128, some (122, false), .ld (.t 127)⟩ (.q ⟨some 129, some (122, false), .mv (.t 7)⟩ (.q ⟨some 130, some (122, false), .mv (.t 8)⟩ (.q ⟨some 131, some (122, false), .ia 2 (.t 129) (.t 130)⟩ (.q ⟨some 132, some (122, false), .fa 0 (.t 131)⟩ (.q ⟨some 133, some (122, false), .ld (.t 132)⟩ (.q ⟨some 134, some (122, false), .bin .add (.t 128) (.t 133)⟩ (.q ⟨some 135, some (122, false), .mv (.t 3)⟩ (.q ⟨some 136, some (122, false), .mv (.t 6)⟩ (.q ⟨some 137, some (122, false), .ia 4 (.t 135) (.t 136)⟩ (.q ⟨some 138, some (122, false), .fa 2 (.t 137)⟩ (.q ⟨some 139, some (122, false), .fa 0 (.t 138)⟩ (.q ⟨some 140, some (122, false), .ld (.t 139)⟩ (.q ⟨some 141, some (122, false), .bin .neq (.t 134) (.t 140)⟩ (.q ⟨some 142, none, .pick (.t 122) (.c (.bool true)) (.t 141)⟩ (.done))))))))))))))))))))))))))))))))))))))))))))))))))))) (.kb [0, 3, 6, 7, 8, 9, 12, 142] (.cond (.t 142) (.seq (.reg [⟨some 2, none, .mv (.c (.bool false))⟩]) .ret) .skip))) (.kb [0, 3, 6, 7, 8, 9, 12] (.reg [⟨some 143, none, .mv (.t 6)⟩,
  ⟨some 144, none, .bin .add (.t 143) (.c (.int .i64 1))⟩,
  ⟨some 6, none, .mv (.t 144)⟩])))) (.kb [0, 3, 6, 7, 8, 9, 12] (.reg [⟨some 90, none, .mv (.t 12)⟩,
  ⟨some 91, none, .bin .add (.t 90) (.c (.int .i64 1))⟩,
  ⟨some 12, none, .mv (.t 91)⟩]))))
def b4_1 : D := .seq (.seq (.reg [⟨some 31, none, .mv (.t 8)⟩,
  ⟨some 32, none, .mv (.t 7)⟩,
  ⟨some 33, none, .llen (.t 32)⟩,
  ⟨some 34, none, .bin .lss (.t 31) (.t 33)⟩]) (.kb [0, 3, 6, 7, 8, 34] (.cond (.t 34) .skip (.exit 0)))) (.kb [0, 3, 6, 7, 8] (.seq (.block 1 (.seq (.seq (.drw (.q ⟨some 37, none, .mv (.t 7)⟩ (.q ⟨some 38, none, .mv (.t 8)⟩ (.q ⟨some 39, none, .ia 2 (.t 37) (.t 38)⟩ (.q ⟨some 40, none, .fa 0 (.t 39)⟩ (.q ⟨some 41, none, .ld (.t 40)⟩ (.q ⟨some 42, none, .bin .lss (.t 41) (.c (.int .i64 0))⟩ (.q ⟨some 43, none, .mv (.t 42)⟩ (.q ⟨some 44, some (43, false), .mv (.t 7)⟩ (.q ⟨some 45, some (43, false), .mv (.t 8)⟩ (.q ⟨some 46, some (43, false), .ia 2 (.t 44) (.t 45)⟩ (.q ⟨some 47, some (43, false), .fa 1 (.t 46)⟩ (.q ⟨some 48, some (43, false), .ld (.t 47)⟩ (.q ⟨some 49, some (43, false), .mv (.t 0)⟩ (.q ⟨some 50, some (43, false), .llen (.t 49)⟩ (.q ⟨some 51, some (43, false), .bin .gtr (.t 48) (.t 50)⟩ (.q ⟨some 52, none, .pick (.t 43) (.c (.bool true)) (.t 51)⟩ (.q ⟨some 53, none, .mv (.t 52)⟩ (.q ⟨some 54, some (53, false), .mv (.t 7)⟩ (.q ⟨some 55, some (53, false), .mv (.t 8)⟩ (.q ⟨some 56, some (53, false), .ia 2 (.t 54) (.t 55)⟩ (.q ⟨some 57, some (53, false), .fa 0 (.t 56)⟩ (.q ⟨some 58, some (53, false), .ld (.t 57)⟩ (.q ⟨some 59, some (53, false), .mv (.t 7)⟩ (.q ⟨some 60, some (53, false), .mv (.t 8)⟩ (.q ⟨some 61, some (53, false), .ia 2 (.t 59) (.t 60)⟩ (.q ⟨some 62, some (53, false), .fa 1 (.t 61)⟩ (.q ⟨some 63, some (53, false), .ld (.t 62)⟩ (.q ⟨some 64, some (53, false), .bin .gtr (.t 58) (.t 63)⟩ (.q ⟨some 65, none, .pick (.t 53) (.c (.bool true)) (.t 64)⟩ (.done))))))))))))))))))))))))))))))) (.kb [0, 3, 6, 7, 8, 65] (.cond (.t 65) (.seq (.reg [⟨some 2, none, .mv (.c (.bool false))⟩]) .ret) .skip))) (.kb [0, 3, 6, 7, 8] (.seq (.drw (.q ⟨some 67, none, .mv (.t 0)⟩ (.q ⟨some 68, none, .mv (.t 7)⟩ (.q ⟨some 69, none, .mv (.t 8)⟩ (.q ⟨some 70, none, .ia 2 (.t 68) (.t 69)⟩ (.q ⟨some 71, none, .fa 0 (.t 70)⟩ (.q ⟨some 72, none, .ld (.t 71)⟩ (.q ⟨some 73, none, .mv (.t 7)⟩ (.q ⟨some 74, none, .mv (.t 8)⟩ (.q ⟨some 75, none, .ia 2 (.t 73) (.t 74)⟩ (.q ⟨some 76, none, .fa 1 (.t 75)⟩ (.q ⟨some 77, none, .ld (.t 76)⟩ (.q ⟨some 78, none, .lsl 1 (.t 67) (some (.t 72)) (some (.t 77))⟩ (.alt ⟨some 79, none, .call 10 [.t 78]⟩ [] (.q ⟨some 66, none, .mv (.t 79)⟩ (.q ⟨some 80, none, .ext (.t 66) 0⟩ (.q ⟨some 81, none, .ext (.t 66) 1⟩ (.q ⟨some 82, none, .ext (.t 66) 2⟩ (.q ⟨some 9, none, .mv (.t 80)⟩ (.q ⟨some 10, none, .mv (.t 81)⟩ (.q ⟨some 11, none, .mv (.t 82)⟩ (.done)))))))) (.stop))))))))))))))) (.kb [0, 3, 6, 7, 8, 9, 11] (.seq (.seq (.reg [⟨some 83, none, .mv (.t 11)⟩,
  ⟨some 84, none, .bin .neq (.t 83) (.c (.int .i64 0))⟩]) (.kb [0, 3, 6, 7, 8, 9, 84] (.cond (.t 84) (.seq (.reg [⟨some 2, none, .mv (.c (.bool false))⟩]) .ret) .skip))) (.kb [0, 3, 6, 7, 8, 9] (.seq (.reg [⟨some 12, none, .mv (.c (.int .i64 0))⟩]) (.kb [0, 3, 6, 7, 8, 9, 12] (.block 2 (.loop [0, 3, 6, 7, 8, 9, 12] b4_0))))))))))) (.kb [0, 3, 6, 7, 8] (.reg [⟨some 35, none, .mv (.t 8)⟩,
  ⟨some 36, none, .bin .add (.t 35) (.c (.int .i64 1))⟩,
  ⟨some 8, none, .mv (.t 36)⟩]))))
def d4 : D := .seq (.reg [⟨some 2, none, .mv (.c (.bool false))⟩]) (.kb [0] (.seq (.seq (.reg [⟨some 13, none, .call 5 []⟩,
  ⟨some 14, none, .un .not (.t 13)⟩,
  ⟨some 15, none, .mv (.t 14)⟩,
  ⟨some 16, some (15, false), .mv (.t 0)⟩,
  ⟨some 17, some (15, false), .llen (.t 16)⟩,
  ⟨some 18, some (15, false), .bin .gtr (.t 17) (.c (.int .i64 1500))⟩,
  ⟨some 19, none, .pick (.t 15) (.c (.bool true)) (.t 18)⟩]) (.kb [0, 19] (.cond (.t 19) (.seq (.reg [⟨some 20, none, .call 5 []⟩,
  ⟨some 2, none, .mv (.t 20)⟩]) .ret) .skip))) (.kb [0] (.seq (.reg [⟨some 22, none, .mv (.t 0)⟩,
  ⟨some 23, none, .call 10 [.t 22]⟩,
  ⟨some 21, none, .mv (.t 23)⟩,
  ⟨some 24, none, .ext (.t 21) 0⟩,
  ⟨some 25, none, .ext (.t 21) 1⟩,
  ⟨some 26, none, .ext (.t 21) 2⟩,
  ⟨some 3, none, .mv (.t 24)⟩,
  ⟨some 4, none, .mv (.t 25)⟩,
  ⟨some 5, none, .mv (.t 26)⟩]) (.kb [0, 3, 5] (.seq (.seq (.reg [⟨some 27, none, .mv (.t 5)⟩,
  ⟨some 28, none, .bin .neq (.t 27) (.c (.int .i64 0))⟩]) (.kb [0, 3, 28] (.cond (.t 28) (.seq (.reg [⟨some 2, none, .mv (.c (.bool true))⟩]) .ret) .skip))) (.kb [0, 3] (.seq (.reg [⟨some 6, none, .mv (.c (.int .i64 0))⟩]) (.kb [0, 3, 6] (.seq (.reg [⟨some 29, none, .mv (.t 0)⟩,
  ⟨some 30, none, .call 9 [.t 29]⟩,
  ⟨some 7, none, .mv (.t 30)⟩]) (.kb [0, 3, 6, 7] (.seq (.seq (.reg [⟨some 8, none, .mv (.c (.int .i64 0))⟩]) (.kb [0, 3, 6, 7, 8] (.block 0 (.loop [0, 3, 6, 7, 8] b4_1)))) (.kb [3, 6] (.seq (.reg [⟨some 145, none, .mv (.t 6)⟩,
  ⟨some 146, none, .mv (.t 3)⟩,
  ⟨some 147, none, .llen (.t 146)⟩,
  ⟨some 148, none, .bin .sub (.t 147) (.c (.int .i64 1))⟩,
  ⟨some 149, none, .bin .eql (.t 145) (.t 148)⟩,
  ⟨some 2, none, .mv (.t 149)⟩]) .ret))))))))))))))
def f4 : FD := ⟨150, [.t 2], d4, .all⟩
theorem ok4 : compF planOf Try.prog 4 = some ⟨150, [.t 2], d4.er⟩ := by kernel_rfl
/-- whetstone/whetstonelaw08.parted -/
def d5 : D := .seq (.reg [⟨some 0, none, .mv (.c (.bool false))⟩]) (.kb [] (.seq (.reg [⟨some 8, none, .bslice [.int .u8 0] 10 [(0, .c (.int .u8 97)), (1, .c (.int .u8 60)), (2, .c (.int .u8 61)), (3, .c (.int .u8 98)), (4, .c (.int .u8 49)), (5, .c (.int .u8 32)), (6, .c (.int .u8 47)), (7, .c (.int .u8 47)), (8, .c (.int .u8 32)), (9, .c (.int .u8 99))]⟩,
  ⟨some 9, none, .b2b (.t 8)⟩,
  ⟨some 10, none, .call 10 [.t 9]⟩,
  ⟨some 7, none, .mv (.t 10)⟩,
  ⟨some 11, none, .ext (.t 7) 0⟩,
  ⟨some 12, none, .ext (.t 7) 1⟩,
  ⟨some 13, none, .ext (.t 7) 2⟩,
  ⟨some 1, none, .mv (.t 11)⟩,
  ⟨some 2, none, .mv (.t 12)⟩,
  ⟨some 3, none, .mv (.t 13)⟩]) (.kb [1, 3] (.seq (.reg [⟨some 15, none, .bslice [.int .u8 0] 2 [(0, .c (.int .u8 120)), (1, .c (.int .u8 35))]⟩,
  ⟨some 16, none, .b2b (.t 15)⟩,
  ⟨some 17, none, .call 10 [.t 16]⟩,
  ⟨some 14, none, .mv (.t 17)⟩,
  ⟨some 18, none, .ext (.t 14) 0⟩,
  ⟨some 19, none, .ext (.t 14) 1⟩,
  ⟨some 20, none, .ext (.t 14) 2⟩,
  ⟨some 4, none, .mv (.t 18)⟩,
  ⟨some 5, none, .mv (.t 19)⟩,
  ⟨some 6, none, .mv (.t 20)⟩]) (.kb [1, 3, 5, 6] (.seq (.reg [⟨some 21, none, .mv (.t 3)⟩,
  ⟨some 22, none, .bin .eql (.t 21) (.c (.int .i64 0))⟩,
  ⟨some 23, none, .mv (.t 22)⟩,
  ⟨some 24, some (23, true), .mv (.t 1)⟩,
  ⟨some 25, some (23, true), .llen (.t 24)⟩,
  ⟨some 26, some (23, true), .bin .eql (.t 25) (.c (.int .i64 4))⟩,
  ⟨some 27, none, .pick (.t 23) (.t 26) (.c (.bool false))⟩,
  ⟨some 28, none, .mv (.t 27)⟩,
  ⟨some 29, some (28, true), .mv (.t 1)⟩,
  ⟨some 30, some (28, true), .ia 4 (.t 29) (.c (.int .i64 1))⟩,
  ⟨some 31, some (28, true), .fa 1 (.t 30)⟩,
  ⟨some 32, some (28, true), .ld (.t 31)⟩,
  ⟨some 33, some (28, true), .bin .eql (.t 32) (.c (.str [60, 61]))⟩,
  ⟨some 34, none, .pick (.t 28) (.t 33) (.c (.bool false))⟩,
  ⟨some 35, none, .mv (.t 34)⟩,
  ⟨some 36, some (35, true), .mv (.t 1)⟩,
  ⟨some 37, some (35, true), .ia 4 (.t 36) (.c (.int .i64 2))⟩,
  ⟨some 38, some (35, true), .fa 2 (.t 37)⟩,
  ⟨some 39, some (35, true), .lda 2 (.t 38)⟩,
  ⟨some 40, some (35, true), .build [.int .i64 0, .int .i64 0] [(0, 1, .c (.int .i64 3)), (1, 1, .c (.int .i64 5))]⟩,
  ⟨some 41, some (35, true), .eqa false [.int, .int] (.t 39) (.t 40)⟩,
  ⟨some 42, none, .pick (.t 35) (.t 41) (.c (.bool false))⟩,
  ⟨some 43, none, .mv (.t 42)⟩,
  ⟨some 44, some (43, true), .mv (.t 5)⟩,
  ⟨some 45, some (43, true), .bin .eql (.t 44) (.c (.int .i64 1))⟩,
  ⟨some 46, none, .pick (.t 43) (.t 45) (.c (.bool false))⟩,
  ⟨some 47, none, .mv (.t 46)⟩,
  ⟨some 48, some (47, true), .mv (.t 6)⟩,
  ⟨some 49, some (47, true), .bin .eql (.t 48) (.c (.int .i64 20))⟩,
  ⟨some 50, none, .pick (.t 47) (.t 49) (.c (.bool false))⟩,
  ⟨some 0, none, .mv (.t 50)⟩]) .ret))))))
def f5 : FD := ⟨51, [.t 0], d5, .all⟩
theorem ok5 : compF planOf Try.prog 5 = some ⟨51, [.t 0], d5.er⟩ := by kernel_rfl
/-- whetstone/whetstoneref08.Items -/
def b6_0 : D := .seq (.seq (.reg [⟨some 10, none, .mv (.t 7)⟩,
  ⟨some 11, none, .mv (.t 0)⟩,
  ⟨some 12, none, .llen (.t 11)⟩,
  ⟨some 13, none, .bin .lss (.t 10) (.t 12)⟩]) (.kb [0, 3, 4, 5, 6, 7, 13] (.cond (.t 13) .skip (.exit 0)))) (.kb [0, 3, 4, 5, 6, 7] (.seq (.block 1 (.seq (.seq (.reg [⟨some 16, none, .mv (.t 3)⟩,
  ⟨some 17, none, .mv (.t 7)⟩,
  ⟨some 18, none, .ia 1 (.t 16) (.t 17)⟩,
  ⟨some 19, none, .ld (.t 18)⟩,
  ⟨some 20, none, .bin .eql (.t 19) (.c (.int .i64 1))⟩]) (.kb [0, 3, 4, 5, 6, 7, 20] (.cond (.t 20) (.exit 1) .skip))) (.kb [0, 3, 4, 5, 7] (.seq (.reg [⟨some 6, none, .mv (.c (.bool true))⟩]) (.kb [0, 3, 4, 5, 6, 7] (.seq (.reg [⟨some 21, none, .mv (.t 0)⟩,
  ⟨some 22, none, .mv (.t 7)⟩,
  ⟨some 23, none, .ia 1 (.t 21) (.t 22)⟩,
  ⟨some 24, none, .ld (.t 23)⟩,
  ⟨some 25, none, .bin .eql (.t 24) (.c (.int .u8 59))⟩]) (.kb [0, 3, 4, 5, 6, 7, 25] (.cond (.t 25) (.seq (.reg [⟨some 26, none, .mv (.t 4)⟩,
  ⟨some 27, none, .mv (.t 5)⟩,
  ⟨some 28, none, .mv (.t 7)⟩,
  ⟨some 29, none, .bin .add (.t 28) (.c (.int .i64 1))⟩,
  ⟨some 30, none, .build [.int .i64 0, .int .i64 0] [(0, 1, .t 27), (1, 1, .t 29)]⟩,
  ⟨some 31, none, .bslice [.int .i64 0, .int .i64 0] 1 [(0, .t 30)]⟩,
  ⟨some 32, none, .app 16 2 (.t 26) (.t 31)⟩,
  ⟨some 4, none, .mv (.t 32)⟩]) (.kb [0, 3, 4, 7] (.seq (.reg [⟨some 33, none, .mv (.t 7)⟩,
  ⟨some 34, none, .bin .add (.t 33) (.c (.int .i64 1))⟩,
  ⟨some 5, none, .mv (.t 34)⟩]) (.kb [0, 3, 4, 5, 7] (.reg [⟨some 6, none, .mv (.c (.bool false))⟩]))))) .skip)))))))) (.kb [0, 3, 4, 5, 6, 7] (.reg [⟨some 14, none, .mv (.t 7)⟩,
  ⟨some 15, none, .bin .add (.t 14) (.c (.int .i64 1))⟩,
  ⟨some 7, none, .mv (.t 15)⟩]))))
def d6 : D := .seq (.reg [⟨some 2, none, .mv (.c (.nils))⟩]) (.kb [0] (.seq (.reg [⟨some 8, none, .mv (.t 0)⟩,
  ⟨some 9, none, .call 11 [.t 8]⟩,
  ⟨some 3, none, .mv (.t 9)⟩]) (.kb [0, 3] (.seq (.reg [⟨some 4, none, .mv (.c (.nils))⟩]) (.kb [0, 3, 4] (.seq (.reg [⟨some 5, none, .mv (.c (.int .i64 0))⟩]) (.kb [0, 3, 4, 5] (.seq (.reg [⟨some 6, none, .mv (.c (.bool false))⟩]) (.kb [0, 3, 4, 5, 6] (.seq (.seq (.reg [⟨some 7, none, .mv (.c (.int .i64 0))⟩]) (.kb [0, 3, 4, 5, 6, 7] (.block 0 (.loop [0, 3, 4, 5, 6, 7] b6_0)))) (.kb [0, 4, 5, 6] (.seq (.seq (.reg [⟨some 35, none, .mv (.t 6)⟩]) (.kb [0, 4, 5, 35] (.cond (.t 35) (.reg [⟨some 36, none, .mv (.t 4)⟩,
  ⟨some 37, none, .mv (.t 5)⟩,
  ⟨some 38, none, .mv (.t 0)⟩,
  ⟨some 39, none, .llen (.t 38)⟩,
  ⟨some 40, none, .build [.int .i64 0, .int .i64 0] [(0, 1, .t 37), (1, 1, .t 39)]⟩,
  ⟨some 41, none, .bslice [.int .i64 0, .int .i64 0] 1 [(0, .t 40)]⟩,
  ⟨some 42, none, .app 16 2 (.t 36) (.t 41)⟩,
  ⟨some 4, none, .mv (.t 42)⟩]) .skip))) (.kb [4] (.seq (.reg [⟨some 43, none, .mv (.t 4)⟩,
  ⟨some 2, none, .mv (.t 43)⟩]) .ret))))))))))))))
def f6 : FD := ⟨44, [.t 2], d6, .all⟩
theorem ok6 : compF planOf Try.prog 6 = some ⟨44, [.t 2], d6.er⟩ := by kernel_rfl
/-- whetstone/lex.Items -/
def d7 : D := .seq (.reg [⟨some 1, none, .box (.t 0)⟩,
  ⟨some 2, none, .mv (.c (.nilf))⟩]) (.kb [1] (.seq (.reg [⟨some 3, none, .mkf (.func 12) [] [.t 1]⟩,
  ⟨some 2, none, .mv (.t 3)⟩]) .ret))
def f7 : FD := ⟨4, [.t 2], d7, .raw⟩
theorem ok7 : compF planOf Try.prog 7 = some ⟨4, [.t 2], d7.er⟩ := by kernel_rfl
/-- whetstone/whetstoneref08.SameSpans -/
def b8_0 : D := .seq (.seq (.reg [⟨some 11, none, .mv (.t 5)⟩,
  ⟨some 12, none, .mv (.t 0)⟩,
  ⟨some 13, none, .llen (.t 12)⟩,
  ⟨some 14, none, .bin .lss (.t 11) (.t 13)⟩]) (.kb [0, 1, 5, 14] (.cond (.t 14) .skip (.exit 0)))) (.kb [0, 1, 5] (.seq (.block 1 (.seq (.drw (.q ⟨some 17, none, .mv (.t 0)⟩ (.q ⟨some 18, none, .mv (.t 5)⟩ (.q ⟨some 19, none, .ia 2 (.t 17) (.t 18)⟩ (.q ⟨some 20, none, .lda 2 (.t 19)⟩ (.q ⟨some 21, none, .mv (.t 1)⟩ (.q ⟨some 22, none, .mv (.t 5)⟩ (.q ⟨some 23, none, .ia 2 (.t 21) (.t 22)⟩ (.q ⟨some 24, none, .lda 2 (.t 23)⟩ (.q ⟨some 25, none, .eqa true [.int, .int] (.t 20) (.t 24)⟩ (.done))))))))))) (.kb [0, 1, 5, 25] (.cond (.t 25) (.seq (.reg [⟨some 4, none, .mv (.c (.bool false))⟩]) .ret) .skip)))) (.kb [0, 1, 5] (.reg [⟨some 15, none, .mv (.t 5)⟩,
  ⟨some 16, none, .bin .add (.t 15) (.c (.int .i64 1))⟩,
  ⟨some 5, none, .mv (.t 16)⟩]))))
def d8 : D := .seq (.reg [⟨some 4, none, .mv (.c (.bool false))⟩]) (.kb [0, 1] (.seq (.seq (.reg [⟨some 6, none, .mv (.t 0)⟩,
  ⟨some 7, none, .llen (.t 6)⟩,
  ⟨some 8, none, .mv (.t 1)⟩,
  ⟨some 9, none, .llen (.t 8)⟩,
  ⟨some 10, none, .bin .neq (.t 7) (.t 9)⟩]) (.kb [0, 1, 10] (.cond (.t 10) (.seq (.reg [⟨some 4, none, .mv (.c (.bool false))⟩]) .ret) .skip))) (.kb [0, 1] (.seq (.seq (.reg [⟨some 5, none, .mv (.c (.int .i64 0))⟩]) (.kb [0, 1, 5] (.block 0 (.loop [0, 1, 5] b8_0)))) (.kb [] (.seq (.reg [⟨some 4, none, .mv (.c (.bool true))⟩]) .ret))))))
def f8 : FD := ⟨26, [.t 4], d8, .all⟩
theorem ok8 : compF planOf Try.prog 8 = some ⟨26, [.t 4], d8.er⟩ := by kernel_rfl
/-- whetstone/whetstonelaw08.spans -/
def b9_0 : D := .reg [⟨some 4, none, .new [.int .i64 0, .int .i64 0]⟩,
  ⟨none, none, .st 2 (.t 4) (.t 7)⟩]
def b9_1 : D := .block 1 (.seq (.seq (.reg [⟨some 8, none, .ld (.t 3)⟩,
  ⟨some 9, none, .llen (.t 8)⟩,
  ⟨some 10, none, .bin .gtr (.t 9) (.c (.int .i64 3000))⟩]) (.kb [2, 3, 4, 10] (.cond (.t 10) (.seq (.reg [⟨some 11, none, .ld (.t 3)⟩,
  ⟨none, none, .st 1 (.t 2) (.t 11)⟩]) .ret) .skip))) (.kb [3, 4] (.reg [⟨some 12, none, .ld (.t 3)⟩,
  ⟨some 13, none, .lda 2 (.t 4)⟩,
  ⟨some 14, none, .bslice [.int .i64 0, .int .i64 0] 1 [(0, .t 13)]⟩,
  ⟨some 15, none, .app 16 2 (.t 12) (.t 14)⟩,
  ⟨none, none, .st 1 (.t 3) (.t 15)⟩])))
def d9 : D := .seq (.reg [⟨some 2, none, .new [.nils]⟩]) (.kb [0, 2] (.seq (.reg [⟨some 3, none, .new [.nils]⟩]) (.kb [0, 2, 3] (.seq (.seq (.reg [⟨some 5, none, .mv (.t 0)⟩,
  ⟨some 6, none, .call 7 [.t 5]⟩]) (.kb [2, 3, 6] (.block 0 (.rng (.t 6) [7] b9_0 b9_1)))) (.kb [2, 3] (.seq (.reg [⟨some 16, none, .ld (.t 3)⟩,
  ⟨none, none, .st 1 (.t 2) (.t 16)⟩]) .ret))))))
def f9 : FD := ⟨17, [.c 2 none], d9, .all⟩
theorem ok9 : compF planOf Try.prog 9 = some ⟨17, [.c 2 none], d9.er⟩ := by kernel_rfl
/-- whetstone/lex.Tokens -/
def b10_0 : D := .seq (.seq (.reg [⟨some 11, none, .mv (.t 6)⟩,
  ⟨some 12, none, .mv (.t 0)⟩,
  ⟨some 13, none, .llen (.t 12)⟩,
  ⟨some 14, none, .bin .lss (.t 11) (.t 13)⟩]) (.kb [0, 5, 6, 14] (.cond (.t 14) .skip (.exit 0)))) (.kb [0, 5, 6] (.seq (.block 1 (.seq (.reg [⟨some 19, none, .mv (.t 0)⟩,
  ⟨some 20, none, .mv (.t 6)⟩,
  ⟨some 21, none, .call 15 [.t 19, .t 20]⟩,
  ⟨some 18, none, .mv (.t 21)⟩,
  ⟨some 22, none, .ext (.t 18) 0⟩,
  ⟨some 23, none, .ext (.t 18) 1⟩,
  ⟨some 7, none, .new [.int .i64 0, .str [], .int .i64 0, .int .i64 0]⟩,
  ⟨none, none, .st 4 (.t 7) (.t 22)⟩,
  ⟨some 8, none, .mv (.t 23)⟩]) (.kb [0, 5, 6, 7, 8] (.seq (.seq (.reg [⟨some 24, none, .mv (.t 8)⟩,
  ⟨some 25, none, .bin .neq (.t 24) (.c (.int .i64 0))⟩]) (.kb [0, 5, 6, 7, 8, 25] (.cond (.t 25) (.seq (.reg [⟨some 26, none, .mv (.t 6)⟩,
  ⟨some 27, none, .mv (.t 8)⟩,
  ⟨some 2, none, .mv (.c (.nils))⟩,
  ⟨some 3, none, .mv (.t 26)⟩,
  ⟨some 4, none, .mv (.t 27)⟩]) .ret) .skip))) (.kb [0, 5, 7] (.seq (.reg [⟨some 28, none, .mv (.t 5)⟩,
  ⟨some 29, none, .lda 4 (.t 7)⟩,
  ⟨some 30, none, .bslice [.int .i64 0, .str [], .int .i64 0, .int .i64 0] 1 [(0, .t 29)]⟩,
  ⟨some 31, none, .app 40 4 (.t 28) (.t 30)⟩,
  ⟨some 5, none, .mv (.t 31)⟩]) (.kb [0, 5, 7] (.reg [⟨some 32, none, .fa 2 (.t 7)⟩,
  ⟨some 33, none, .fa 1 (.t 32)⟩,
  ⟨some 34, none, .ld (.t 33)⟩,
  ⟨some 6, none, .mv (.t 34)⟩])))))))) (.kb [0, 5, 6] (.reg [⟨some 15, none, .mv (.t 0)⟩,
  ⟨some 16, none, .mv (.t 6)⟩,
  ⟨some 17, none, .call 13 [.t 15, .t 16]⟩,
  ⟨some 6, none, .mv (.t 17)⟩]))))
def d10 : D := .seq (.reg [⟨some 2, none, .mv (.c (.nils))⟩,
  ⟨some 3, none, .mv (.c (.int .i64 0))⟩,
  ⟨some 4, none, .mv (.c (.int .i64 0))⟩]) (.kb [0] (.seq (.reg [⟨some 5, none, .mv (.c (.nils))⟩]) (.kb [0, 5] (.seq (.seq (.reg [⟨some 9, none, .mv (.t 0)⟩,
  ⟨some 10, none, .call 13 [.t 9, .c (.int .i64 0)]⟩,
  ⟨some 6, none, .mv (.t 10)⟩]) (.kb [0, 5, 6] (.block 0 (.loop [0, 5, 6] b10_0)))) (.kb [0, 5] (.seq (.reg [⟨some 35, none, .mv (.t 5)⟩,
  ⟨some 36, none, .mv (.t 0)⟩,
  ⟨some 37, none, .llen (.t 36)⟩,
  ⟨some 38, none, .mv (.t 0)⟩,
  ⟨some 39, none, .llen (.t 38)⟩,
  ⟨some 40, none, .build [.int .i64 0, .int .i64 0] [(0, 1, .t 37), (1, 1, .t 39)]⟩,
  ⟨some 41, none, .build [.int .i64 0, .str [], .int .i64 0, .int .i64 0] [(0, 1, .c (.int .i64 0)), (2, 2, .t 40)]⟩,
  ⟨some 42, none, .bslice [.int .i64 0, .str [], .int .i64 0, .int .i64 0] 1 [(0, .t 41)]⟩,
  ⟨some 43, none, .app 40 4 (.t 35) (.t 42)⟩,
  ⟨some 2, none, .mv (.t 43)⟩,
  ⟨some 3, none, .mv (.c (.int .i64 0))⟩,
  ⟨some 4, none, .mv (.c (.int .i64 0))⟩]) .ret))))))
def f10 : FD := ⟨44, [.t 2, .t 3, .t 4], d10, .all⟩
theorem ok10 : compF planOf Try.prog 10 = some ⟨44, [.t 2, .t 3, .t 4], d10.er⟩ := by kernel_rfl
/-- whetstone/whetstoneref08.Marks -/
def b11_0 : D := .seq (.seq (.reg [⟨some 9, none, .mv (.t 5)⟩,
  ⟨some 10, none, .mv (.t 0)⟩,
  ⟨some 11, none, .llen (.t 10)⟩,
  ⟨some 12, none, .bin .lss (.t 9) (.t 11)⟩]) (.kb [0, 3, 4, 5, 12] (.cond (.t 12) .skip (.exit 0)))) (.kb [0, 3, 4, 5] (.seq (.block 1 (.seq (.seq (.reg [⟨some 15, none, .mv (.t 4)⟩,
  ⟨some 16, none, .mv (.t 15)⟩,
  ⟨some 17, some (16, true), .mv (.t 0)⟩,
  ⟨some 18, some (16, true), .mv (.t 5)⟩,
  ⟨some 19, some (16, true), .ia 1 (.t 17) (.t 18)⟩,
  ⟨some 20, some (16, true), .ld (.t 19)⟩,
  ⟨some 21, some (16, true), .bin .eql (.t 20) (.c (.int .u8 10))⟩,
  ⟨some 22, none, .pick (.t 16) (.t 21) (.c (.bool false))⟩]) (.kb [0, 3, 4, 5, 22] (.cond (.t 22) (.reg [⟨some 4, none, .mv (.c (.bool false))⟩]) .skip))) (.kb [0, 3, 4, 5] (.seq (.seq (.reg [⟨some 23, none, .mv (.t 4)⟩,
  ⟨some 24, none, .un .not (.t 23)⟩,
  ⟨some 25, none, .mv (.t 24)⟩,
  ⟨some 26, some (25, true), .mv (.t 0)⟩,
  ⟨some 27, some (25, true), .mv (.t 5)⟩,
  ⟨some 28, some (25, true), .ia 1 (.t 26) (.t 27)⟩,
  ⟨some 29, some (25, true), .ld (.t 28)⟩,
  ⟨some 30, some (25, true), .bin .eql (.t 29) (.c (.int .u8 47))⟩,
  ⟨some 31, none, .pick (.t 25) (.t 30) (.c (.bool false))⟩,
  ⟨some 32, none, .mv (.t 31)⟩,
  ⟨some 33, some (32, true), .mv (.t 5)⟩,
  ⟨some 34, some (32, true), .bin .add (.t 33) (.c (.int .i64 1))⟩,
  ⟨some 35, some (32, true), .mv (.t 0)⟩,
  ⟨some 36, some (32, true), .llen (.t 35)⟩,
  ⟨some 37, some (32, true), .bin .lss (.t 34) (.t 36)⟩,
  ⟨some 38, none, .pick (.t 32) (.t 37) (.c (.bool false))⟩,
  ⟨some 39, none, .mv (.t 38)⟩,
  ⟨some 40, some (39, true), .mv (.t 0)⟩,
  ⟨some 41, some (39, true), .mv (.t 5)⟩,
  ⟨some 42, some (39, true), .bin .add (.t 41) (.c (.int .i64 1))⟩,
  ⟨some 43, some (39, true), .ia 1 (.t 40) (.t 42)⟩,
  ⟨some 44, some (39, true), .ld (.t 43)⟩,
  ⟨some 45, some (39, true), .bin .eql (.t 44) (.c (.int .u8 47))⟩,
  ⟨some 46, none, .pick (.t 39) (.t 45) (.c (.bool false))⟩]) (.kb [0, 3, 4, 5, 46] (.cond (.t 46) (.reg [⟨some 4, none, .mv (.c (.bool true))⟩]) .skip))) (.kb [0, 3, 4, 5] (.seq (.reg [⟨some 47, none, .mv (.t 4)⟩,
  ⟨some 48, none, .mv (.t 47)⟩,
  ⟨some 49, some (48, false), .mv (.t 0)⟩,
  ⟨some 50, some (48, false), .mv (.t 5)⟩,
  ⟨some 51, some (48, false), .ia 1 (.t 49) (.t 50)⟩,
  ⟨some 52, some (48, false), .ld (.t 51)⟩,
  ⟨some 53, some (48, false), .bin .eql (.t 52) (.c (.int .u8 32))⟩,
  ⟨some 54, none, .pick (.t 48) (.c (.bool true)) (.t 53)⟩,
  ⟨some 55, none, .mv (.t 54)⟩,
  ⟨some 56, some (55, false), .mv (.t 0)⟩,
  ⟨some 57, some (55, false), .mv (.t 5)⟩,
  ⟨some 58, some (55, false), .ia 1 (.t 56) (.t 57)⟩,
  ⟨some 59, some (55, false), .ld (.t 58)⟩,
  ⟨some 60, some (55, false), .bin .eql (.t 59) (.c (.int .u8 9))⟩,
  ⟨some 61, none, .pick (.t 55) (.c (.bool true)) (.t 60)⟩,
  ⟨some 62, none, .mv (.t 61)⟩,
  ⟨some 63, some (62, false), .mv (.t 0)⟩,
  ⟨some 64, some (62, false), .mv (.t 5)⟩,
  ⟨some 65, some (62, false), .ia 1 (.t 63) (.t 64)⟩,
  ⟨some 66, some (62, false), .ld (.t 65)⟩,
  ⟨some 67, some (62, false), .bin .eql (.t 66) (.c (.int .u8 10))⟩,
  ⟨some 68, none, .pick (.t 62) (.c (.bool true)) (.t 67)⟩,
  ⟨some 69, none, .mv (.t 68)⟩,
  ⟨some 70, some (69, false), .mv (.t 0)⟩,
  ⟨some 71, some (69, false), .mv (.t 5)⟩,
  ⟨some 72, some (69, false), .ia 1 (.t 70) (.t 71)⟩,
  ⟨some 73, some (69, false), .ld (.t 72)⟩,
  ⟨some 74, some (69, false), .bin .eql (.t 73) (.c (.int .u8 13))⟩,
  ⟨some 75, none, .pick (.t 69) (.c (.bool true)) (.t 74)⟩]) (.kb [0, 3, 4, 5, 75] (.cond (.t 75) (.reg [⟨some 76, none, .mv (.t 3)⟩,
  ⟨some 77, none, .mv (.t 5)⟩,
  ⟨some 78, none, .ia 1 (.t 76) (.t 77)⟩,
  ⟨none, none, .st 1 (.t 78) (.c (.int .i64 1))⟩]) .skip)))))))) (.kb [0, 3, 4, 5] (.reg [⟨some 13, none, .mv (.t 5)⟩,
  ⟨some 14, none, .bin .add (.t 13) (.c (.int .i64 1))⟩,
  ⟨some 5, none, .mv (.t 14)⟩]))))
def d11 : D := .seq (.reg [⟨some 2, none, .mv (.c (.nils))⟩]) (.kb [0] (.seq (.reg [⟨some 6, none, .mv (.t 0)⟩,
  ⟨some 7, none, .llen (.t 6)⟩,
  ⟨some 8, none, .mksl 8 [.int .i64 0] (.t 7) (.t 7)⟩,
  ⟨some 3, none, .mv (.t 8)⟩]) (.kb [0, 3] (.seq (.reg [⟨some 4, none, .mv (.c (.bool false))⟩]) (.kb [0, 3, 4] (.seq (.seq (.reg [⟨some 5, none, .mv (.c (.int .i64 0))⟩]) (.kb [0, 3, 4, 5] (.block 0 (.loop [0, 3, 4, 5] b11_0)))) (.kb [3] (.seq (.reg [⟨some 79, none, .mv (.t 3)⟩,
  ⟨some 2, none, .mv (.t 79)⟩]) .ret))))))))
def f11 : FD := ⟨80, [.t 2], d11, .all⟩
theorem ok11 : compF planOf Try.prog 11 = some ⟨80, [.t 2], d11.er⟩ := by kernel_rfl
/-- whetstone/lex.Items$1 -/
def b12_0 : D := .seq (.seq (.reg [⟨some 6, none, .mv (.t 4)⟩,
  ⟨some 7, none, .ld (.t 1)⟩,
  ⟨some 8, none, .llen (.t 7)⟩,
  ⟨some 9, none, .bin .lss (.t 6) (.t 8)⟩]) (.kb [0, 1, 3, 4, 9] (.cond (.t 9) .skip (.exit 0)))) (.kb [0, 1, 3, 4] (.block 1 (.seq (.reg [⟨some 10, none, .ld (.t 1)⟩,
  ⟨some 11, none, .mv (.t 4)⟩,
  ⟨some 12, none, .call 13 [.t 10, .t 11]⟩,
  ⟨some 5, none, .mv (.t 12)⟩]) (.kb [0, 1, 3, 5] (.seq (.seq (.reg [⟨some 13, none, .mv (.t 5)⟩,
  ⟨some 14, none, .ld (.t 1)⟩,
  ⟨some 15, none, .llen (.t 14)⟩,
  ⟨some 16, none, .bin .eql (.t 13) (.t 15)⟩]) (.kb [0, 1, 3, 5, 16] (.cond (.t 16) (.seq (.seq (.reg [⟨some 17, none, .ld (.t 1)⟩,
  ⟨some 18, none, .mv (.t 3)⟩,
  ⟨some 19, none, .call 14 [.t 17, .t 18]⟩]) (.kb [0, 1, 3, 19] (.cond (.t 19) (.reg [⟨some 20, none, .mv (.t 0)⟩,
  ⟨some 21, none, .mv (.t 3)⟩,
  ⟨some 22, none, .ld (.t 1)⟩,
  ⟨some 23, none, .llen (.t 22)⟩,
  ⟨some 24, none, .build [.int .i64 0, .int .i64 0] [(0, 1, .t 21), (1, 1, .t 23)]⟩,
  ⟨some 25, none, .callv (.t 20) [.t 24]⟩]) .skip))) .ret) .skip))) (.kb [0, 1, 3, 5] (.seq (.reg [⟨some 26, none, .mv (.t 5)⟩,
  ⟨some 27, none, .bin .add (.t 26) (.c (.int .i64 1))⟩,
  ⟨some 4, none, .mv (.t 27)⟩]) (.kb [0, 1, 3, 4, 5] (.seq (.seq (.reg [⟨some 28, none, .ld (.t 1)⟩,
  ⟨some 29, none, .mv (.t 5)⟩,
  ⟨some 30, none, .ia 1 (.t 28) (.t 29)⟩,
  ⟨some 31, none, .ld (.t 30)⟩,
  ⟨some 32, none, .bin .neq (.t 31) (.c (.int .u8 59))⟩]) (.kb [0, 1, 3, 4, 32] (.cond (.t 32) (.seq (.seq (.reg [⟨some 33, none, .mv (.t 4)⟩,
  ⟨some 34, none, .ld (.t 1)⟩,
  ⟨some 35, none, .llen (.t 34)⟩,
  ⟨some 36, none, .bin .eql (.t 33) (.t 35)⟩]) (.kb [0, 1, 3, 4, 36] (.cond (.t 36) (.reg [⟨some 37, none, .mv (.t 0)⟩,
  ⟨some 38, none, .mv (.t 3)⟩,
  ⟨some 39, none, .ld (.t 1)⟩,
  ⟨some 40, none, .llen (.t 39)⟩,
  ⟨some 41, none, .build [.int .i64 0, .int .i64 0] [(0, 1, .t 38), (1, 1, .t 40)]⟩,
  ⟨some 42, none, .callv (.t 37) [.t 41]⟩]) .skip))) (.exit 1)) .skip))) (.kb [0, 1, 3, 4] (.seq (.seq (.reg [⟨some 43, none, .mv (.t 0)⟩,
  ⟨some 44, none, .mv (.t 3)⟩,
  ⟨some 45, none, .mv (.t 4)⟩,
  ⟨some 46, none, .build [.int .i64 0, .int .i64 0] [(0, 1, .t 44), (1, 1, .t 45)]⟩,
  ⟨some 47, none, .callv (.t 43) [.t 46]⟩,
  ⟨some 48, none, .un .not (.t 47)⟩]) (.kb [0, 1, 4, 48] (.cond (.t 48) .ret .skip))) (.kb [0, 1, 4] (.reg [⟨some 49, none, .mv (.t 4)⟩,
  ⟨some 3, none, .mv (.t 49)⟩])))))))))))))
def d12 : D := .seq (.reg [⟨some 3, none, .mv (.c (.int .i64 0))⟩]) (.kb [0, 1, 3] (.seq (.reg [⟨some 4, none, .mv (.c (.int .i64 0))⟩]) (.kb [0, 1, 3, 4] (.block 0 (.loop [0, 1, 3, 4] b12_0)))))
def f12 : FD := ⟨50, [], d12, .all⟩
theorem ok12 : compF planOf Try.prog 12 = some ⟨50, [], d12.er⟩ := by kernel_rfl
/-- whetstone/lex.skip -/
def b13_0 : D := .seq (.seq (.reg [⟨some 43, none, .mv (.t 1)⟩,
  ⟨some 44, none, .mv (.t 0)⟩,
  ⟨some 45, none, .llen (.t 44)⟩,
  ⟨some 46, none, .bin .lss (.t 43) (.t 45)⟩,
  ⟨some 47, none, .mv (.t 46)⟩,
  ⟨some 48, some (47, true), .mv (.t 0)⟩,
  ⟨some 49, some (47, true), .mv (.t 1)⟩,
  ⟨some 50, some (47, true), .ia 1 (.t 48) (.t 49)⟩,
  ⟨some 51, some (47, true), .ld (.t 50)⟩,
  ⟨some 52, some (47, true), .bin .neq (.t 51) (.c (.int .u8 10))⟩,
  ⟨some 53, none, .pick (.t 47) (.t 52) (.c (.bool false))⟩]) (.kb [0, 1, 53] (.cond (.t 53) .skip (.exit 3)))) (.kb [0, 1] (.block 4 (.reg [⟨some 54, none, .mv (.t 1)⟩,
  ⟨some 55, none, .bin .add (.t 54) (.c (.int .i64 1))⟩,
  ⟨some 1, none, .mv (.t 55)⟩])))
def b13_1 : D := .seq (.seq (.reg [⟨some 5, none, .mv (.t 1)⟩,
  ⟨some 6, none, .mv (.t 0)⟩,
  ⟨some 7, none, .llen (.t 6)⟩,
  ⟨some 8, none, .bin .lss (.t 5) (.t 7)⟩]) (.kb [0, 1, 8] (.cond (.t 8) .skip (.exit 0)))) (.kb [0, 1] (.block 1 (.block 2 (.seq (.reg [⟨some 11, none, .mv (.t 0)⟩,
  ⟨some 12, none, .mv (.t 1)⟩,
  ⟨some 13, none, .ia 1 (.t 11) (.t 12)⟩,
  ⟨some 14, none, .ld (.t 13)⟩,
  ⟨some 15, none, .bin .eql (.t 14) (.c (.int .u8 32))⟩,
  ⟨some 16, none, .mv (.t 15)⟩,
  ⟨some 17, some (16, false), .mv (.t 0)⟩,
  ⟨some 18, some (16, false), .mv (.t 1)⟩,
  ⟨some 19, some (16, false), .ia 1 (.t 17) (.t 18)⟩,
  ⟨some 20, some (16, false), .ld (.t 19)⟩,
  ⟨some 21, some (16, false), .bin .eql (.t 20) (.c (.int .u8 9))⟩,
  ⟨some 22, none, .pick (.t 16) (.c (.bool true)) (.t 21)⟩,
  ⟨some 23, none, .mv (.t 22)⟩,
  ⟨some 24, some (23, false), .mv (.t 0)⟩,
  ⟨some 25, some (23, false), .mv (.t 1)⟩,
  ⟨some 26, some (23, false), .ia 1 (.t 24) (.t 25)⟩,
  ⟨some 27, some (23, false), .ld (.t 26)⟩,
  ⟨some 28, some (23, false), .bin .eql (.t 27) (.c (.int .u8 10))⟩,
  ⟨some 29, none, .pick (.t 23) (.c (.bool true)) (.t 28)⟩,
  ⟨some 30, none, .mv (.t 29)⟩,
  ⟨some 31, some (30, false), .mv (.t 0)⟩,
  ⟨some 32, some (30, false), .mv (.t 1)⟩,
  ⟨some 33, some (30, false), .ia 1 (.t 31) (.t 32)⟩,
  ⟨some 34, some (30, false), .ld (.t 33)⟩,
  ⟨some 35, some (30, false), .bin .eql (.t 34) (.c (.int .u8 13))⟩,
  ⟨some 36, none, .pick (.t 30) (.c (.bool true)) (.t 35)⟩,
  ⟨some 10, none, .mv (.t 36)⟩]) (.kb [0, 1, 10] (.cond (.t 10) (.reg [⟨some 37, none, .mv (.t 1)⟩,
  ⟨some 38, none, .bin .add (.t 37) (.c (.int .i64 1))⟩,
  ⟨some 1, none, .mv (.t 38)⟩]) (.seq (.reg [⟨some 40, none, .mv (.t 0)⟩,
  ⟨some 41, none, .mv (.t 1)⟩,
  ⟨some 42, none, .call 16 [.t 40, .t 41]⟩,
  ⟨some 39, none, .mv (.t 42)⟩]) (.kb [0, 1, 39] (.cond (.t 39) (.block 3 (.loop [0, 1] b13_0)) (.seq (.reg [⟨some 9, none, .mv (.t 1)⟩,
  ⟨some 4, none, .mv (.t 9)⟩]) .ret))))))))))
def d13 : D := .seq (.reg [⟨some 4, none, .mv (.c (.int .i64 0))⟩]) (.kb [0, 1] (.seq (.block 0 (.loop [0, 1] b13_1)) (.kb [1] (.seq (.reg [⟨some 56, none, .mv (.t 1)⟩,
  ⟨some 4, none, .mv (.t 56)⟩]) .ret))))
def f13 : FD := ⟨57, [.t 4], d13, .all⟩
theorem ok13 : compF planOf Try.prog 13 = some ⟨57, [.t 4], d13.er⟩ := by kernel_rfl
/-- whetstone/lex.hasToken -/
def d14 : D := .seq (.reg [⟨some 4, none, .mv (.c (.bool false))⟩]) (.kb [0, 1] (.seq (.reg [⟨some 5, none, .mv (.t 0)⟩,
  ⟨some 6, none, .mv (.t 1)⟩,
  ⟨some 7, none, .call 13 [.t 5, .t 6]⟩,
  ⟨some 8, none, .mv (.t 0)⟩,
  ⟨some 9, none, .llen (.t 8)⟩,
  ⟨some 10, none, .bin .lss (.t 7) (.t 9)⟩,
  ⟨some 4, none, .mv (.t 10)⟩]) .ret))
def f14 : FD := ⟨11, [.t 4], d14, .all⟩
theorem ok14 : compF planOf Try.prog 14 = some ⟨11, [.t 4], d14.er⟩ := by kernel_rfl
/-- whetstone/lex.token -/
def b15_0 : D := .seq (.seq (.reg [⟨some 26, none, .mv (.t 6)⟩,
  ⟨some 27, none, .mv (.t 0)⟩,
  ⟨some 28, none, .llen (.t 27)⟩,
  ⟨some 29, none, .bin .lss (.t 26) (.t 28)⟩,
  ⟨some 30, none, .mv (.t 29)⟩,
  ⟨some 31, some (30, true), .mv (.t 0)⟩,
  ⟨some 32, some (30, true), .mv (.t 6)⟩,
  ⟨some 33, some (30, true), .ia 1 (.t 31) (.t 32)⟩,
  ⟨some 34, some (30, true), .ld (.t 33)⟩,
  ⟨some 35, some (30, true), .call 17 [.t 34]⟩,
  ⟨some 36, some (30, true), .mv (.t 35)⟩,
  ⟨some 37, some (36, false), .mv (.t 0)⟩,
  ⟨some 38, some (36, false), .mv (.t 6)⟩,
  ⟨some 39, some (36, false), .ia 1 (.t 37) (.t 38)⟩,
  ⟨some 40, some (36, false), .ld (.t 39)⟩,
  ⟨some 41, some (36, false), .call 18 [.t 40]⟩,
  ⟨some 42, some (30, true), .pick (.t 36) (.c (.bool true)) (.t 41)⟩,
  ⟨some 43, some (30, true), .mv (.t 42)⟩,
  ⟨some 44, some (43, false), .mv (.t 0)⟩,
  ⟨some 45, some (43, false), .mv (.t 6)⟩,
  ⟨some 46, some (43, false), .ia 1 (.t 44) (.t 45)⟩,
  ⟨some 47, some (43, false), .ld (.t 46)⟩,
  ⟨some 48, some (43, false), .bin .eql (.t 47) (.c (.int .u8 95))⟩,
  ⟨some 49, some (30, true), .pick (.t 43) (.c (.bool true)) (.t 48)⟩,
  ⟨some 50, none, .pick (.t 30) (.t 49) (.c (.bool false))⟩]) (.kb [0, 1, 4, 6, 50] (.cond (.t 50) .skip (.exit 1)))) (.kb [0, 1, 4, 6] (.block 2 (.reg [⟨some 51, none, .mv (.t 6)⟩,
  ⟨some 52, none, .bin .add (.t 51) (.c (.int .i64 1))⟩,
  ⟨some 6, none, .mv (.t 52)⟩])))
def b15_1 : D := .seq (.seq (.reg [⟨some 67, none, .mv (.t 6)⟩,
  ⟨some 68, none, .mv (.t 0)⟩,
  ⟨some 69, none, .llen (.t 68)⟩,
  ⟨some 70, none, .bin .lss (.t 67) (.t 69)⟩,
  ⟨some 71, none, .mv (.t 70)⟩,
  ⟨some 72, some (71, true), .mv (.t 0)⟩,
  ⟨some 73, some (71, true), .mv (.t 6)⟩,
  ⟨some 74, some (71, true), .ia 1 (.t 72) (.t 73)⟩,
  ⟨some 75, some (71, true), .ld (.t 74)⟩,
  ⟨some 76, some (71, true), .call 18 [.t 75]⟩,
  ⟨some 77, none, .pick (.t 71) (.t 76) (.c (.bool false))⟩]) (.kb [0, 1, 4, 6, 77] (.cond (.t 77) .skip (.exit 3)))) (.kb [0, 1, 4, 6] (.block 4 (.reg [⟨some 78, none, .mv (.t 6)⟩,
  ⟨some 79, none, .bin .add (.t 78) (.c (.int .i64 1))⟩,
  ⟨some 6, none, .mv (.t 79)⟩])))
def d15 : D := .seq (.reg [⟨some 4, none, .new [.int .i64 0, .str [], .int .i64 0, .int .i64 0]⟩,
  ⟨some 5, none, .mv (.c (.int .i64 0))⟩]) (.kb [0, 1, 4] (.seq (.drw (.q ⟨some 9, none, .mv (.t 1)⟩ (.q ⟨some 10, none, .mv (.t 0)⟩ (.q ⟨some 11, none, .mv (.t 1)⟩ (.q ⟨some 12, none, .ia 1 (.t 10) (.t 11)⟩ (.q ⟨some 13, none, .ld (.t 12)⟩ (.q ⟨some 6, none, .mv (.t 9)⟩ (.q ⟨some 7, none, .mv (.t 13)⟩ (.q ⟨some 8, none, .mv (.c (.int .i64 4))⟩ (.done)))))))))) (.kb [0, 1, 4, 6, 7, 8] (.seq (.block 0 (.seq (.reg [⟨some 24, none, .mv (.t 7)⟩,
  ⟨some 25, none, .call 17 [.t 24]⟩,
  ⟨some 23, none, .mv (.t 25)⟩]) (.kb [0, 1, 4, 6, 7, 8, 23] (.cond (.t 23) (.seq (.block 1 (.loop [0, 1, 4, 6] b15_0)) (.kb [0, 1, 4, 6] (.seq (.reg [⟨some 8, none, .mv (.c (.int .i64 1))⟩]) (.kb [0, 1, 4, 6, 8] (.seq (.seq (.reg [⟨some 53, none, .mv (.t 0)⟩,
  ⟨some 54, none, .mv (.t 1)⟩,
  ⟨some 55, none, .mv (.t 6)⟩,
  ⟨some 56, none, .lsl 1 (.t 53) (some (.t 54)) (some (.t 55))⟩,
  ⟨some 57, none, .b2s (.t 56)⟩,
  ⟨some 58, none, .call 19 [.t 57]⟩]) (.kb [0, 1, 4, 6, 8, 58] (.cond (.t 58) (.reg [⟨some 8, none, .mv (.c (.int .i64 2))⟩]) .skip))) (.kb [0, 1, 4, 6, 8] (.seq (.reg [⟨some 59, none, .mv (.t 6)⟩,
  ⟨some 60, none, .mv (.t 1)⟩,
  ⟨some 61, none, .bin .sub (.t 59) (.t 60)⟩,
  ⟨some 62, none, .bin .gtr (.t 61) (.c (.int .i64 24))⟩]) (.kb [0, 1, 4, 6, 8, 62] (.cond (.t 62) (.seq (.reg [⟨some 63, none, .build [.int .i64 0, .str [], .int .i64 0, .int .i64 0] []⟩,
  ⟨none, none, .st 4 (.t 4) (.t 63)⟩,
  ⟨some 5, none, .mv (.c (.int .i64 3))⟩]) .ret) .skip))))))))) (.seq (.reg [⟨some 65, none, .mv (.t 7)⟩,
  ⟨some 66, none, .call 18 [.t 65]⟩,
  ⟨some 64, none, .mv (.t 66)⟩]) (.kb [0, 1, 4, 6, 8, 64] (.cond (.t 64) (.seq (.block 3 (.loop [0, 1, 4, 6] b15_1)) (.kb [0, 1, 4, 6] (.seq (.reg [⟨some 8, none, .mv (.c (.int .i64 3))⟩]) (.kb [0, 1, 4, 6, 8] (.seq (.reg [⟨some 80, none, .mv (.t 6)⟩,
  ⟨some 81, none, .mv (.t 1)⟩,
  ⟨some 82, none, .bin .sub (.t 80) (.t 81)⟩,
  ⟨some 83, none, .bin .gtr (.t 82) (.c (.int .i64 40))⟩]) (.kb [0, 1, 4, 6, 8, 83] (.cond (.t 83) (.seq (.reg [⟨some 84, none, .build [.int .i64 0, .str [], .int .i64 0, .int .i64 0] []⟩,
  ⟨none, none, .st 4 (.t 4) (.t 84)⟩,
  ⟨some 5, none, .mv (.c (.int .i64 3))⟩]) .ret) .skip))))))) (.seq (.reg [⟨some 14, none, .mv (.t 6)⟩,
  ⟨some 15, none, .mv (.t 0)⟩,
  ⟨some 16, none, .mv (.t 1)⟩,
  ⟨some 17, none, .call 20 [.t 15, .t 16]⟩,
  ⟨some 18, none, .bin .add (.t 14) (.t 17)⟩,
  ⟨some 6, none, .mv (.t 18)⟩]) (.kb [0, 1, 4, 6, 8] (.seq (.reg [⟨some 19, none, .mv (.t 6)⟩,
  ⟨some 20, none, .mv (.t 1)⟩,
  ⟨some 21, none, .bin .eql (.t 19) (.t 20)⟩]) (.kb [0, 1, 4, 6, 8, 21] (.cond (.t 21) (.seq (.reg [⟨some 22, none, .build [.int .i64 0, .str [], .int .i64 0, .int .i64 0] []⟩,
  ⟨none, none, .st 4 (.t 4) (.t 22)⟩,
  ⟨some 5, none, .mv (.c (.int .i64 20))⟩]) .ret) .skip)))))))))))) (.kb [0, 1, 4, 6, 8] (.seq (.reg [⟨some 85, none, .mv (.t 8)⟩,
  ⟨some 86, none, .mv (.t 0)⟩,
  ⟨some 87, none, .mv (.t 1)⟩,
  ⟨some 88, none, .mv (.t 6)⟩,
  ⟨some 89, none, .lsl 1 (.t 86) (some (.t 87)) (some (.t 88))⟩,
  ⟨some 90, none, .b2s (.t 89)⟩,
  ⟨some 91, none, .mv (.t 1)⟩,
  ⟨some 92, none, .mv (.t 6)⟩,
  ⟨some 93, none, .build [.int .i64 0, .int .i64 0] [(0, 1, .t 91), (1, 1, .t 92)]⟩,
  ⟨some 94, none, .build [.int .i64 0, .str [], .int .i64 0, .int .i64 0] [(0, 1, .t 85), (1, 1, .t 90), (2, 2, .t 93)]⟩,
  ⟨none, none, .st 4 (.t 4) (.t 94)⟩,
  ⟨some 5, none, .mv (.c (.int .i64 0))⟩]) .ret))))))
def f15 : FD := ⟨95, [.c 4 (some 4), .t 5], d15, .all⟩
theorem ok15 : compF planOf Try.prog 15 = some ⟨95, [.c 4 (some 4), .t 5], d15.er⟩ := by kernel_rfl
/-- whetstone/lex.remark -/
def d16 : D := .seq (.reg [⟨some 4, none, .mv (.c (.bool false))⟩]) (.kb [0, 1] (.seq (.reg [⟨some 5, none, .mv (.t 0)⟩,
  ⟨some 6, none, .mv (.t 1)⟩,
  ⟨some 7, none, .ia 1 (.t 5) (.t 6)⟩,
  ⟨some 8, none, .ld (.t 7)⟩,
  ⟨some 9, none, .bin .eql (.t 8) (.c (.int .u8 47))⟩,
  ⟨some 10, none, .mv (.t 9)⟩,
  ⟨some 11, some (10, true), .mv (.t 1)⟩,
  ⟨some 12, some (10, true), .bin .add (.t 11) (.c (.int .i64 1))⟩,
  ⟨some 13, some (10, true), .mv (.t 0)⟩,
  ⟨some 14, some (10, true), .llen (.t 13)⟩,
  ⟨some 15, some (10, true), .bin .lss (.t 12) (.t 14)⟩,
  ⟨some 16, none, .pick (.t 10) (.t 15) (.c (.bool false))⟩,
  ⟨some 17, none, .mv (.t 16)⟩,
  ⟨some 18, some (17, true), .mv (.t 0)⟩,
  ⟨some 19, some (17, true), .mv (.t 1)⟩,
  ⟨some 20, some (17, true), .bin .add (.t 19) (.c (.int .i64 1))⟩,
  ⟨some 21, some (17, true), .ia 1 (.t 18) (.t 20)⟩,
  ⟨some 22, some (17, true), .ld (.t 21)⟩,
  ⟨some 23, some (17, true), .bin .eql (.t 22) (.c (.int .u8 47))⟩,
  ⟨some 24, none, .pick (.t 17) (.t 23) (.c (.bool false))⟩,
  ⟨some 4, none, .mv (.t 24)⟩]) .ret))
def f16 : FD := ⟨25, [.t 4], d16, .all⟩
theorem ok16 : compF planOf Try.prog 16 = some ⟨25, [.t 4], d16.er⟩ := by kernel_rfl
/-- whetstone/lex.small -/
def d17 : D := .seq (.reg [⟨some 2, none, .mv (.c (.bool false))⟩]) (.kb [0] (.seq (.reg [⟨some 3, none, .mv (.t 0)⟩,
  ⟨some 4, none, .bin .geq (.t 3) (.c (.int .u8 97))⟩,
  ⟨some 5, none, .mv (.t 4)⟩,
  ⟨some 6, some (5, true), .mv (.t 0)⟩,
  ⟨some 7, some (5, true), .bin .leq (.t 6) (.c (.int .u8 122))⟩,
  ⟨some 8, none, .pick (.t 5) (.t 7) (.c (.bool false))⟩,
  ⟨some 2, none, .mv (.t 8)⟩]) .ret))
def f17 : FD := ⟨9, [.t 2], d17, .all⟩
theorem ok17 : compF planOf Try.prog 17 = some ⟨9, [.t 2], d17.er⟩ := by kernel_rfl
/-- whetstone/lex.digit -/
def d18 : D := .seq (.reg [⟨some 2, none, .mv (.c (.bool false))⟩]) (.kb [0] (.seq (.reg [⟨some 3, none, .mv (.t 0)⟩,
  ⟨some 4, none, .bin .geq (.t 3) (.c (.int .u8 48))⟩,
  ⟨some 5, none, .mv (.t 4)⟩,
  ⟨some 6, some (5, true), .mv (.t 0)⟩,
  ⟨some 7, some (5, true), .bin .leq (.t 6) (.c (.int .u8 57))⟩,
  ⟨some 8, none, .pick (.t 5) (.t 7) (.c (.bool false))⟩,
  ⟨some 2, none, .mv (.t 8)⟩]) .ret))
def f18 : FD := ⟨9, [.t 2], d18, .all⟩
theorem ok18 : compF planOf Try.prog 18 = some ⟨9, [.t 2], d18.er⟩ := by kernel_rfl
/-- whetstone/lex.IsWord -/
def d19 : D := .seq (.reg [⟨some 2, none, .mv (.c (.bool false))⟩]) (.kb [0] (.seq (.seq (.reg [⟨some 3, none, .mv (.t 0)⟩]) (.kb [3] (.block 0 (.seq (.seq (.reg [⟨some 5, none, .bin .eql (.t 3) (.c (.str [102, 110]))⟩,
  ⟨some 4, none, .mv (.t 5)⟩]) (.kb [3, 4] (.cond (.t 4) .skip (.seq (.reg [⟨some 6, none, .bin .eql (.t 3) (.c (.str [112, 117, 98]))⟩,
  ⟨some 4, none, .mv (.t 6)⟩]) (.kb [3, 4] (.cond (.t 4) .skip (.seq (.reg [⟨some 7, none, .bin .eql (.t 3) (.c (.str [113, 117, 97, 108]))⟩,
  ⟨some 4, none, .mv (.t 7)⟩]) (.kb [3, 4] (.cond (.t 4) .skip (.seq (.reg [⟨some 8, none, .bin .eql (.t 3) (.c (.str [108, 101, 116]))⟩,
  ⟨some 4, none, .mv (.t 8)⟩]) (.kb [3, 4] (.cond (.t 4) .skip (.seq (.reg [⟨some 9, none, .bin .eql (.t 3) (.c (.str [105, 110]))⟩,
  ⟨some 4, none, .mv (.t 9)⟩]) (.kb [3, 4] (.cond (.t 4) .skip (.seq (.reg [⟨some 10, none, .bin .eql (.t 3) (.c (.str [105, 102]))⟩,
  ⟨some 4, none, .mv (.t 10)⟩]) (.kb [3, 4] (.cond (.t 4) .skip (.seq (.reg [⟨some 11, none, .bin .eql (.t 3) (.c (.str [116, 104, 101, 110]))⟩,
  ⟨some 4, none, .mv (.t 11)⟩]) (.kb [3, 4] (.cond (.t 4) .skip (.seq (.reg [⟨some 12, none, .bin .eql (.t 3) (.c (.str [101, 108, 115, 101]))⟩,
  ⟨some 4, none, .mv (.t 12)⟩]) (.kb [3, 4] (.cond (.t 4) .skip (.seq (.reg [⟨some 13, none, .bin .eql (.t 3) (.c (.str [97, 115, 115, 101, 114, 116]))⟩,
  ⟨some 4, none, .mv (.t 13)⟩]) (.kb [3, 4] (.cond (.t 4) .skip (.seq (.reg [⟨some 14, none, .bin .eql (.t 3) (.c (.str [116, 114, 117, 101]))⟩,
  ⟨some 4, none, .mv (.t 14)⟩]) (.kb [3, 4] (.cond (.t 4) .skip (.seq (.reg [⟨some 15, none, .bin .eql (.t 3) (.c (.str [102, 97, 108, 115, 101]))⟩,
  ⟨some 4, none, .mv (.t 15)⟩]) (.kb [3, 4] (.cond (.t 4) .skip (.seq (.reg [⟨some 16, none, .bin .eql (.t 3) (.c (.str [105, 110, 116]))⟩,
  ⟨some 4, none, .mv (.t 16)⟩]) (.kb [3, 4] (.cond (.t 4) .skip (.seq (.reg [⟨some 17, none, .bin .eql (.t 3) (.c (.str [98, 111, 111, 108]))⟩,
  ⟨some 4, none, .mv (.t 17)⟩]) (.kb [3, 4] (.cond (.t 4) .skip (.seq (.reg [⟨some 18, none, .bin .eql (.t 3) (.c (.str [97, 114, 114]))⟩,
  ⟨some 4, none, .mv (.t 18)⟩]) (.kb [3, 4] (.cond (.t 4) .skip (.seq (.reg [⟨some 19, none, .bin .eql (.t 3) (.c (.str [103, 101, 116]))⟩,
  ⟨some 4, none, .mv (.t 19)⟩]) (.kb [3, 4] (.cond (.t 4) .skip (.seq (.reg [⟨some 20, none, .bin .eql (.t 3) (.c (.str [115, 101, 116]))⟩,
  ⟨some 4, none, .mv (.t 20)⟩]) (.kb [3, 4] (.cond (.t 4) .skip (.seq (.reg [⟨some 21, none, .bin .eql (.t 3) (.c (.str [108, 101, 110]))⟩,
  ⟨some 4, none, .mv (.t 21)⟩]) (.kb [3, 4] (.cond (.t 4) .skip (.seq (.reg [⟨some 22, none, .bin .eql (.t 3) (.c (.str [102, 105, 108, 108]))⟩,
  ⟨some 4, none, .mv (.t 22)⟩]) (.kb [3, 4] (.cond (.t 4) .skip (.seq (.reg [⟨some 23, none, .bin .eql (.t 3) (.c (.str [110, 111, 116]))⟩,
  ⟨some 4, none, .mv (.t 23)⟩]) (.kb [3, 4] (.cond (.t 4) .skip (.seq (.reg [⟨some 24, none, .bin .eql (.t 3) (.c (.str [97, 110, 100]))⟩,
  ⟨some 4, none, .mv (.t 24)⟩]) (.kb [3, 4] (.cond (.t 4) .skip (.seq (.reg [⟨some 25, none, .bin .eql (.t 3) (.c (.str [111, 114]))⟩,
  ⟨some 4, none, .mv (.t 25)⟩]) (.kb [3, 4] (.cond (.t 4) .skip (.reg [⟨some 26, none, .bin .eql (.t 3) (.c (.str [118]))⟩,
  ⟨some 4, none, .mv (.t 26)⟩])))))))))))))))))))))))))))))))))))))))))))))))))))))))))))))))) (.kb [4] (.cond (.t 4) (.seq (.reg [⟨some 2, none, .mv (.c (.bool true))⟩]) .ret) .skip)))))) (.kb [] (.seq (.reg [⟨some 2, none, .mv (.c (.bool false))⟩]) .ret))))
def f19 : FD := ⟨27, [.t 2], d19, .all⟩
theorem ok19 : compF planOf Try.prog 19 = some ⟨27, [.t 2], d19.er⟩ := by kernel_rfl
/-- whetstone/lex.sign -/
def d20 : D := .seq (.reg [⟨some 4, none, .mv (.c (.int .i64 0))⟩]) (.kb [0, 1] (.seq (.seq (.reg [⟨some 5, none, .mv (.t 1)⟩,
  ⟨some 6, none, .bin .add (.t 5) (.c (.int .i64 1))⟩,
  ⟨some 7, none, .mv (.t 0)⟩,
  ⟨some 8, none, .llen (.t 7)⟩,
  ⟨some 9, none, .bin .lss (.t 6) (.t 8)⟩]) (.kb [0, 1, 9] (.cond (.t 9) (.seq (.reg [⟨some 10, none, .mv (.t 0)⟩,
  ⟨some 11, none, .mv (.t 1)⟩,
  ⟨some 12, none, .mv (.t 1)⟩,
  ⟨some 13, none, .bin .add (.t 12) (.c (.int .i64 2))⟩,
  ⟨some 14, none, .lsl 1 (.t 10) (some (.t 11)) (some (.t 13))⟩,
  ⟨some 15, none, .b2s (.t 14)⟩]) (.kb [0, 1, 15] (.block 0 (.seq (.seq (.reg [⟨some 17, none, .bin .eql (.t 15) (.c (.str [45, 62]))⟩,
  ⟨some 16, none, .mv (.t 17)⟩]) (.kb [0, 1, 15, 16] (.cond (.t 16) .skip (.seq (.reg [⟨some 18, none, .bin .eql (.t 15) (.c (.str [60, 61]))⟩,
  ⟨some 16, none, .mv (.t 18)⟩]) (.kb [0, 1, 15, 16] (.cond (.t 16) .skip (.seq (.reg [⟨some 19, none, .bin .eql (.t 15) (.c (.str [62, 61]))⟩,
  ⟨some 16, none, .mv (.t 19)⟩]) (.kb [0, 1, 15, 16] (.cond (.t 16) .skip (.reg [⟨some 20, none, .bin .eql (.t 15) (.c (.str [33, 61]))⟩,
  ⟨some 16, none, .mv (.t 20)⟩])))))))))) (.kb [0, 1, 16] (.cond (.t 16) (.seq (.reg [⟨some 4, none, .mv (.c (.int .i64 2))⟩]) .ret) .skip)))))) .skip))) (.kb [0, 1] (.seq (.seq (.reg [⟨some 21, none, .mv (.t 0)⟩,
  ⟨some 22, none, .mv (.t 1)⟩,
  ⟨some 23, none, .ia 1 (.t 21) (.t 22)⟩,
  ⟨some 24, none, .ld (.t 23)⟩]) (.kb [24] (.block 1 (.seq (.seq (.reg [⟨some 26, none, .bin .eql (.t 24) (.c (.int .u8 40))⟩,
  ⟨some 25, none, .mv (.t 26)⟩]) (.kb [24, 25] (.cond (.t 25) .skip (.seq (.reg [⟨some 27, none, .bin .eql (.t 24) (.c (.int .u8 41))⟩,
  ⟨some 25, none, .mv (.t 27)⟩]) (.kb [24, 25] (.cond (.t 25) .skip (.seq (.reg [⟨some 28, none, .bin .eql (.t 24) (.c (.int .u8 123))⟩,
  ⟨some 25, none, .mv (.t 28)⟩]) (.kb [24, 25] (.cond (.t 25) .skip (.seq (.reg [⟨some 29, none, .bin .eql (.t 24) (.c (.int .u8 125))⟩,
  ⟨some 25, none, .mv (.t 29)⟩]) (.kb [24, 25] (.cond (.t 25) .skip (.seq (.reg [⟨some 30, none, .bin .eql (.t 24) (.c (.int .u8 44))⟩,
  ⟨some 25, none, .mv (.t 30)⟩]) (.kb [24, 25] (.cond (.t 25) .skip (.seq (.reg [⟨some 31, none, .bin .eql (.t 24) (.c (.int .u8 58))⟩,
  ⟨some 25, none, .mv (.t 31)⟩]) (.kb [24, 25] (.cond (.t 25) .skip (.seq (.reg [⟨some 32, none, .bin .eql (.t 24) (.c (.int .u8 61))⟩,
  ⟨some 25, none, .mv (.t 32)⟩]) (.kb [24, 25] (.cond (.t 25) .skip (.seq (.reg [⟨some 33, none, .bin .eql (.t 24) (.c (.int .u8 59))⟩,
  ⟨some 25, none, .mv (.t 33)⟩]) (.kb [24, 25] (.cond (.t 25) .skip (.seq (.reg [⟨some 34, none, .bin .eql (.t 24) (.c (.int .u8 43))⟩,
  ⟨some 25, none, .mv (.t 34)⟩]) (.kb [24, 25] (.cond (.t 25) .skip (.seq (.reg [⟨some 35, none, .bin .eql (.t 24) (.c (.int .u8 45))⟩,
  ⟨some 25, none, .mv (.t 35)⟩]) (.kb [24, 25] (.cond (.t 25) .skip (.seq (.reg [⟨some 36, none, .bin .eql (.t 24) (.c (.int .u8 42))⟩,
  ⟨some 25, none, .mv (.t 36)⟩]) (.kb [24, 25] (.cond (.t 25) .skip (.seq (.reg [⟨some 37, none, .bin .eql (.t 24) (.c (.int .u8 47))⟩,
  ⟨some 25, none, .mv (.t 37)⟩]) (.kb [24, 25] (.cond (.t 25) .skip (.seq (.reg [⟨some 38, none, .bin .eql (.t 24) (.c (.int .u8 37))⟩,
  ⟨some 25, none, .mv (.t 38)⟩]) (.kb [24, 25] (.cond (.t 25) .skip (.seq (.reg [⟨some 39, none, .bin .eql (.t 24) (.c (.int .u8 60))⟩,
  ⟨some 25, none, .mv (.t 39)⟩]) (.kb [24, 25] (.cond (.t 25) .skip (.reg [⟨some 40, none, .bin .eql (.t 24) (.c (.int .u8 62))⟩,
  ⟨some 25, none, .mv (.t 40)⟩]))))))))))))))))))))))))))))))))))))))))))) (.kb [25] (.cond (.t 25) (.seq (.reg [⟨some 4, none, .mv (.c (.int .i64 1))⟩]) .ret) .skip)))))) (.kb [] (.seq (.reg [⟨some 4, none, .mv (.c (.int .i64 0))⟩]) .ret))))))
def f20 : FD := ⟨41, [.t 4], d20, .all⟩
theorem ok20 : compF planOf Try.prog 20 = some ⟨41, [.t 4], d20.er⟩ := by kernel_rfl
def T : FuncId → Option FD
  | 3 => some f3
  | 4 => some f4
  | 5 => some f5
  | 6 => some f6
  | 7 => some f7
  | 8 => some f8
  | 9 => some f9
  | 10 => some f10
  | 11 => some f11
  | 12 => some f12
  | 13 => some f13
  | 14 => some f14
  | 15 => some f15
  | 16 => some f16
  | 17 => some f17
  | 18 => some f18
  | 19 => some f19
  | 20 => some f20
  | _ => none
theorem T_ok : ∀ k fd, T k = some fd → compF planOf Try.prog k = some ⟨fd.nt, fd.res, fd.body.er⟩ ∧ hasBody Try.prog k = true := by
  intro k fd h
  unfold T at h
  split at h <;> simp only [Option.some.injEq, reduceCtorEq] at h <;> subst h
  · exact ⟨ok3, by kernel_rfl⟩
  · exact ⟨ok4, by kernel_rfl⟩
  · exact ⟨ok5, by kernel_rfl⟩
  · exact ⟨ok6, by kernel_rfl⟩
  · exact ⟨ok7, by kernel_rfl⟩
  · exact ⟨ok8, by kernel_rfl⟩
  · exact ⟨ok9, by kernel_rfl⟩
  · exact ⟨ok10, by kernel_rfl⟩
  · exact ⟨ok11, by kernel_rfl⟩
  · exact ⟨ok12, by kernel_rfl⟩
  · exact ⟨ok13, by kernel_rfl⟩
  · exact ⟨ok14, by kernel_rfl⟩
  · exact ⟨ok15, by kernel_rfl⟩
  · exact ⟨ok16, by kernel_rfl⟩
  · exact ⟨ok17, by kernel_rfl⟩
  · exact ⟨ok18, by kernel_rfl⟩
  · exact ⟨ok19, by kernel_rfl⟩
  · exact ⟨ok20, by kernel_rfl⟩
end Go.Proofs.Ytgmjeklneeljdaa
namespace Go.Proofs.Ytgmjeklneeljdaa.Ab
open Go.RowKit
set_option linter.unusedVariables false
set_option linter.unusedSimpArgs false
/-! Slices: what they read as. -/
/-- An element's address. -/
def elA : V → Nat → V
  | .islc _ es, i => match es[i]? with | some e => .iptr e 0 | none => .any
  | .slc l off _, i => .ptr l (off + i) 0
  | _, _ => .any
def cutV : V → Nat → Nat → V
  | .islc z es, a, b => .islc z ((es.take b).drop a)
  | .slc p off _, a, b => .slc p (off + a) (b - a)
  | v, _, _ => v
/-- It reads as these elements. -/
def Rd (σ : St) (z : Nat) (v : V) (es : List (List V)) : Prop := cont σ z v = some es
section
variable {σ σ' : St} {z : Nat} {v : V} {es : List (List V)}
theorem Rd.inv (h : Rd σ z v es) : (v = .nils ∧ es = []) ∨ (v = .islc z es) ∨ (∃ l off rows, v = .slc l off es.length ∧ σ.H l = some (.row z rows) ∧ off + es.length ≤ rows.length ∧ es = (rows.drop off).take es.length) := by
  unfold Rd cont at h
  split at h
  · exact .inl ⟨rfl, by simpa using h.symm⟩
  · split at h
    · rename_i hz; simp at h; exact .inr (.inl (by rw [hz, h]))
    · simp at h
  · split at h
    · split at h
      · rename_i l off len _ z' rows hl hc
        simp at h
        have hlen : es.length = len := by rw [← h]; simp; omega
        refine .inr (.inr ⟨l, off, rows, by rw [hlen], by rw [hl, hc.1], by omega, by rw [hlen]; exact h.symm⟩)
      · simp at h
    · simp at h
  · simp at h
theorem Rd.len (h : Rd σ z v es) : lenV v = some (.int .i64 es.length) := by
  rcases h.inv with ⟨rfl, rfl⟩ | rfl | ⟨l, off, rows, rfl, _⟩ <;> rfl
theorem Rd.at (h : Rd σ z v es) {k : IntKind} {i : Nat} (hi : i < es.length) : iaV σ z v (.int k i) = some (elA v i) := by
  rcases h.inv with ⟨rfl, rfl⟩ | rfl | ⟨l, off, rows, rfl, h1, h2, h3⟩
  · simp at hi
  · simp [iaV, elA, hi]
  · simp [iaV, elA, h1, hi]
theorem Rd.ld (h : Rd σ z v es) {i j : Nat} {e : List V} (he : es[i]? = some e) : (faV j (elA v i)).bind (ldV σ) = e[j]? := by
  have hi : i < es.length := (List.getElem?_eq_some_iff.1 he).1
  rcases h.inv with ⟨rfl, rfl⟩ | rfl | ⟨l, off, rows, rfl, h1, h2, h3⟩
  · simp at he
  · simp [elA, he]
  · have : rows[off + i]? = some e := by
      rw [h3, List.getElem?_take, List.getElem?_drop] at he
      simpa [hi] using he
    simp [elA, h1, this]
/-- An element's cells: their addresses. -/
def celA (v : V) (i j : Nat) : V := (faV j (elA v i)).getD .any
theorem Rd.fa (h : Rd σ z v es) {i j : Nat} (hi : i < es.length) : faV j (elA v i) = some (celA v i j) := by
  rcases h.inv with ⟨rfl, rfl⟩ | rfl | ⟨l, off, rows, rfl, h1, h2, h3⟩
  · simp at hi
  · simp [elA, celA, hi]
  · simp [elA, celA]
theorem Rd.cel (h : Rd σ z v es) {i j : Nat} {e : List V} (he : es[i]? = some e) : ldV σ (celA v i j) = e[j]? := by
  have := h.ld (j := j) he
  rw [h.fa (List.getElem?_eq_some_iff.1 he).1] at this
  exact this
theorem Rd.el (h : Rd σ z v es) {i : Nat} {e : List V} (he : es[i]? = some e) : ldV σ (elA v i) = e[0]? := by
  have := h.cel (j := 0) he
  have h0 : celA v i 0 = elA v i := by
    have hi := (List.getElem?_eq_some_iff.1 he).1
    rcases h.inv with ⟨rfl, rfl⟩ | rfl | ⟨l, off, rows, rfl, h1, h2, h3⟩
    · simp at hi
    · simp [celA, elA, hi]
    · simp [celA, elA]
  rw [h0] at this; exact this
theorem Rd.cut (h : Rd σ z v es) {a b : Nat} (hab : a ≤ b) (hb : b ≤ es.length) : Rd σ z (cutV v a b) ((es.take b).drop a) := by
  rcases h.inv with ⟨rfl, rfl⟩ | rfl | ⟨l, off, rows, rfl, h1, h2, h3⟩
  · simp at hb; subst hb; simp [Rd, cutV, cont]
  · simp [Rd, cutV, cont]
  · unfold Rd cutV cont
    simp only [h1]
    rw [if_pos (⟨trivial, by omega⟩ : True ∧ _)]
    rw [h3, List.take_take, Nat.min_eq_left hb, List.drop_take, List.drop_drop]
theorem Rd.lsl (h : Rd σ z v es) {env : Env} {lo hi : Option Opd} {a b : Nat} (hl : bound env 0 lo = some a) (hh : bound env es.length hi = some b) (hab : a ≤ b) (hb : b ≤ es.length) : lslV env σ z v lo hi = some (cutV v a b) := by
  rcases h.inv with ⟨rfl, rfl⟩ | rfl | ⟨l, off, rows, rfl, h1, h2, h3⟩
  · simp at hb; subst hb
    simp at hab; subst hab
    simp only [List.length_nil] at hh
    simp [lslV, hl, hh, cutV]
  · simp [lslV, hl, hh, cutV, hab, hb]
  · simp only [lslV, hl, hh, cutV, h1, Option.bind_some]
    rw [if_pos ⟨trivial, hab, by omega⟩]
theorem Rd.mono (h : Rd σ z v es) (hH : ∀ l off len, v = .slc l off len → σ'.H l = σ.H l) : Rd σ' z v es := by
  rcases h.inv with ⟨rfl, rfl⟩ | rfl | ⟨l, off, rows, rfl, h1, h2, h3⟩
  · rfl
  · simp [Rd, cont]
  · unfold Rd cont at *
    simp only [hH l off _ rfl]
    exact h
/-! Slices that are one's own, up to their rows' ends. -/
/-- The row of a slice. -/
def V.row : V → Option Nat
  | .slc l _ _ => some l
  | _ => none
def Sl (σ : St) (z : Nat) (v : V) (es : List (List V)) : Prop :=
  (v = .nils ∧ es = []) ∨ ∃ l, v = .slc l 0 es.length ∧ σ.H l = some (.row z es)
theorem Sl.rd (h : Sl σ z v es) : Rd σ z v es := by
  rcases h with ⟨rfl, rfl⟩ | ⟨l, rfl, h⟩
  · rfl
  · simp [Rd, cont, h]
theorem Sl.mono (h : Sl σ z v es) (hH : ∀ l, v.row = some l → σ'.H l = σ.H l) : Sl σ' z v es := by
  rcases h with ⟨rfl, rfl⟩ | ⟨l, rfl, h⟩
  · exact .inl ⟨rfl, rfl⟩
  · exact .inr ⟨l, rfl, by rw [hH l rfl]; exact h⟩
theorem srcOf_rd {v : V} {es : List (List V)} (h : Rd σ z v es) : srcOf σ z v = some es := by
  rcases h.inv with ⟨rfl, rfl⟩ | rfl | ⟨l, off, rows, rfl, h1, h2, h3⟩ <;> exact h
/-- What the store is when a slice has grown. -/
def grown (σ : St) (v : V) : St :=
  match v with
  | .slc l _ _ => σ.kill l
  | _ => σ
@[simp] theorem grown_n (σ : St) (v : V) : (grown σ v).n = σ.n := by cases v <;> rfl
@[simp] theorem grown_W (σ : St) (v : V) : (grown σ v).W = σ.W := by cases v <;> rfl
theorem grown_H (σ : St) (v : V) (l : Nat) : (grown σ v).H l = if v.row = some l then none else σ.H l := by
  cases v <;> simp [grown, V.row, eq_comm]
theorem Sl.app (h : Sl σ z v es) {y : V} {ys : List (List V)} (hy : srcOf σ z y = some ys) (hne : ys ≠ []) {bytes : Nat} (hb : (es.length + ys.length) * bytes ≤ reach) (hr : es.length + ys.length ≤ reach) :
    appV σ bytes z v y = some (.slc σ.n 0 (es.length + ys.length), (grown σ v).new (.row z (es ++ ys))) := by
  have hl : 0 < ys.length := List.length_pos_iff.2 hne
  rcases h with ⟨rfl, rfl⟩ | ⟨l, rfl, h⟩
  · simp at hb hr
    simp [appV, hy, hne, hb, hr, grown]
  · simp [appV, hy, hne, hb, hr, h, grown]
    omega
theorem Sl.app0 (h : Sl σ z v es) {y : V} (hy : srcOf σ z y = some []) {bytes : Nat} : appV σ bytes z v y = some (v, σ) := by
  rcases h with ⟨rfl, rfl⟩ | ⟨l, rfl, h⟩ <;> simp [appV, hy]
theorem vT {p : Prop} [Decidable p] (h : p) : V.bool (decide p) = .bool true := by rw [decide_eq_true h]
theorem vF {p : Prop} [Decidable p] (h : ¬ p) : V.bool (decide p) = .bool false := by rw [decide_eq_false h]
/-! Slices of bytes. -/
theorem u8n {c : UInt8} {n : Nat} (h : n < 256) : ((c.toNat : Int) = n) ↔ c = UInt8.ofNat n := by
  constructor
  · intro e
    apply UInt8.toNat_inj.1
    simp
    omega
  · rintro rfl
    simp
    omega
def Bs (σ : St) (v : V) (s : List UInt8) : Prop := Rd σ 1 v (s.map byteE)
variable {s : List UInt8}
theorem Bs.len (h : Bs σ v s) : lenV v = some (.int .i64 s.length) := by simpa using Rd.len h
theorem Bs.at (h : Bs σ v s) {k : IntKind} {i : Nat} (hi : i < s.length) : iaV σ 1 v (.int k i) = some (elA v i) := Rd.at h (by simpa using hi)
theorem Bs.at0 (h : Bs σ v s) {k : IntKind} (hi : 0 < s.length) : iaV σ 1 v (.int k 0) = some (elA v 0) := h.at (i := 0) hi
theorem Bs.ld (h : Bs σ v s) {i : Nat} {c : UInt8} (hi : s[i]? = some c) : ldV σ (elA v i) = some (.int .u8 c.toNat) := by
  have := Rd.el h (i := i) (e := byteE c) (by simp [hi])
  simpa [byteE] using this
theorem Bs.cut (h : Bs σ v s) {a b : Nat} (hab : a ≤ b) (hb : b ≤ s.length) : Bs σ (cutV v a b) ((s.take b).drop a) := by
  have := Rd.cut h hab (by simpa using hb)
  simpa [Bs] using this
theorem Bs.lsl (h : Bs σ v s) {env : Env} {lo hi : Option Opd} {a b : Nat} (hl : bound env 0 lo = some a) (hh : bound env s.length hi = some b) (hab : a ≤ b) (hb : b ≤ s.length) : lslV env σ 1 v lo hi = some (cutV v a b) :=
  Rd.lsl h hl (by simpa using hh) hab (by simpa using hb)
theorem Bs.lslTo (h : Bs σ v s) {env : Env} {hi : Opd} {b : Nat} {k : IntKind} (hh : hi.ev env = .int k b) (hb : b ≤ s.length) : lslV env σ 1 v none (some hi) = some (cutV v 0 b) :=
  h.lsl (by simp) (by simp [hh]) (by omega) hb
theorem Bs.lslFrom (h : Bs σ v s) {env : Env} {lo : Opd} {a : Nat} {k : IntKind} (hh : lo.ev env = .int k a) (ha : a ≤ s.length) : lslV env σ 1 v (some lo) none = some (cutV v a s.length) :=
  h.lsl (by simp [hh]) (by simp) ha (by omega)
theorem Bs.lslBoth (h : Bs σ v s) {env : Env} {lo hi : Opd} {a b : Nat} {k k' : IntKind} (hl : lo.ev env = .int k a) (hh : hi.ev env = .int k' b) (hab : a ≤ b) (hb : b ≤ s.length) : lslV env σ 1 v (some lo) (some hi) = some (cutV v a b) :=
  h.lsl (by simp [hl]) (by simp [hh]) hab hb
theorem Bs.b2s (h : Bs σ v s) : ((cont σ 1 v).bind fun es => (es.mapM byteOf).map V.str) = some (.str s) := by
  have h' : cont σ 1 v = some (s.map byteE) := h
  rw [h']
  simp only [Option.bind_some]
  have : (s.map byteE).mapM byteOf = some s := by
    clear h h'
    induction s with
    | nil => rfl
    | cons c s ih =>
      have hc : byteOf (byteE c) = some c := by
        simp only [byteE, byteOf]
        rw [if_pos ⟨by omega, by have := c.toNat_lt; omega⟩]
        simp
      simp [List.mapM_cons, hc, ih]
  rw [this]; rfl
theorem Bs.mono (h : Bs σ v s) (hH : ∀ l off len, v = .slc l off len → σ'.H l = σ.H l) : Bs σ' v s := Rd.mono h hH
theorem Rd.scal (h : Rd σ z v es) : v.scal = true := by
  rcases h.inv with ⟨rfl, rfl⟩ | rfl | ⟨l, off, rows, rfl, h1, h2, h3⟩ <;> rfl
theorem Sl.scal (h : Sl σ z v es) : v.scal = true := h.rd.scal
end
/-! Ends of calls. -/
section
variable (H : Nat → Option Blk) (n : Nat → Bool)
theorem frzC_pure : ∀ (k : Nat) {v : V}, v.pure = true → frzC H n k v = v
  | 0, v, h => by simp [frzC, h]
  | k + 1, v, h => by
    have ih : ∀ {v : V}, v.pure = true → frzC H n k v = v := fun h => frzC_pure k h
    show frzS H n (frzC H n k) v = v
    cases v <;> (try rfl) <;> (try (simp [V.pure] at h; done))
    case func fn a b =>
      simp only [V.pure, Bool.and_eq_true, List.isEmpty_iff] at h
      obtain ⟨rfl, rfl⟩ := h; rfl
    case iface t v =>
      have hv : v.pure = true := by cases v <;> simp_all [V.pure]
      show V.iface t _ = _
      congr 1
      cases v <;> (try exact ih hv)
      simp [V.pure] at hv
theorem frz_list {vs : List V} (h : ∀ v ∈ vs, v.pure = true) (k : Nat) : vs.map (frzC H n k) = vs := by
  conv => rhs; rw [← List.map_id vs]
  exact List.map_congr_left fun v hv => frzC_pure H n k (h v hv)
theorem frz_rows {es : List (List V)} (h : ∀ e ∈ es, ∀ v ∈ e, v.pure = true) (k : Nat) : es.map (·.map (frzC H n k)) = es := by
  conv => rhs; rw [← List.map_id es]
  exact List.map_congr_left fun e he => frz_list H n (h e he) k
variable (v : V) (vs : List V) (k : IntKind) (i : Int) (b : Bool) (t : List UInt8)
@[simp] theorem frzO_ret : frzO H n (.ret v) = .ret (frzV H n v) := rfl
@[simp] theorem frzO_pan : frzO H n (.panic v) = .panic (frzV H n v) := rfl
@[simp] theorem frzV_int : frzV H n (.int k i) = .int k i := rfl
@[simp] theorem frzV_bool : frzV H n (.bool b) = .bool b := rfl
@[simp] theorem frzV_str : frzV H n (.str t) = .str t := rfl
@[simp] theorem frzV_nilp : frzV H n .nilp = .nilp := rfl
@[simp] theorem frzV_nils : frzV H n .nils = .nils := rfl
@[simp] theorem frzV_islc (z : Nat) (es : List (List V)) : frzV H n (.islc z es) = .islc z es := rfl
@[simp] theorem frzV_slc (l o m : Nat) : frzV H n (.slc l o m) = frzC H n 4 (.slc l o m) := rfl
@[simp] theorem frzV_ptr (l i j : Nat) : frzV H n (.ptr l i j) = frzC H n 4 (.ptr l i j) := rfl
@[simp] theorem frzV_agg : frzV H n (.agg vs) = .agg (vs.map (frzC H n 4)) := rfl
@[simp] theorem frzV_tup : frzV H n (.tup vs) = .tup (vs.map (frzA H n)) := rfl
@[simp] theorem frzV_iface (ty : TypeId) : frzV H n (.iface ty v) = frzC H n 4 (.iface ty v) := rfl
@[simp] theorem frzA_int : frzA H n (.int k i) = .int k i := rfl
@[simp] theorem frzA_bool : frzA H n (.bool b) = .bool b := rfl
@[simp] theorem frzA_str : frzA H n (.str t) = .str t := rfl
@[simp] theorem frzA_nilp : frzA H n .nilp = .nilp := rfl
@[simp] theorem frzA_nils : frzA H n .nils = .nils := rfl
@[simp] theorem frzA_islc (z : Nat) (es : List (List V)) : frzA H n (.islc z es) = .islc z es := rfl
@[simp] theorem frzA_slc (l o m : Nat) : frzA H n (.slc l o m) = frzC H n 4 (.slc l o m) := rfl
@[simp] theorem frzA_ptr (l i j : Nat) : frzA H n (.ptr l i j) = frzC H n 4 (.ptr l i j) := rfl
@[simp] theorem frzA_agg : frzA H n (.agg vs) = .agg (vs.map (frzC H n 4)) := rfl
@[simp] theorem frzC_int (m : Nat) : frzC H n (m + 1) (.int k i) = .int k i := rfl
@[simp] theorem frzC_bool (m : Nat) : frzC H n (m + 1) (.bool b) = .bool b := rfl
@[simp] theorem frzC_str (m : Nat) : frzC H n (m + 1) (.str t) = .str t := rfl
@[simp] theorem frzC_nilp (m : Nat) : frzC H n (m + 1) .nilp = .nilp := rfl
@[simp] theorem frzC_nils (m : Nat) : frzC H n (m + 1) .nils = .nils := rfl
@[simp] theorem frzC_islc (m z : Nat) (es : List (List V)) : frzC H n (m + 1) (.islc z es) = .islc z es := rfl
@[simp] theorem frzC_iptr (m j : Nat) (es : List V) : frzC H n (m + 1) (.iptr es j) = .iptr es j := rfl
/-- A slice of a row that is not kept. -/
theorem frz_slc {l off len z : Nat} {es : List (List V)} (m : Nat) (hl : n l = false) (hH : H l = some (.row z es)) (ho : off + len ≤ es.length) (hp : ∀ e ∈ es, ∀ v ∈ e, v.pure = true) : frzC H n (m + 1) (.slc l off len) = .islc z ((es.drop off).take len) := by
  show frzS H n (frzC H n m) (.slc l off len) = _
  have hp' : ∀ e ∈ (es.drop off).take len, ∀ v ∈ e, v.pure = true := fun e he => hp e (List.mem_of_mem_drop (List.mem_of_mem_take he))
  simp only [frzS, hl, hH, frz_rows H n hp' m]
  rw [if_neg (by simp), if_pos ⟨ho, List.all_eq_true.2 fun e he => List.all_eq_true.2 fun v hv => hp' e he v hv⟩]
theorem frz_old {l off len : Nat} (m : Nat) (hl : n l = true) : frzC H n (m + 1) (.slc l off len) = .slc l off len := by
  show frzS H n (frzC H n m) (.slc l off len) = _
  simp [frzS, hl]
theorem frz_oldp {l i j : Nat} (m : Nat) (hl : n l = true) : frzC H n (m + 1) (.ptr l i j) = .ptr l i j := by
  show frzS H n (frzC H n m) (.ptr l i j) = _
  simp [frzS, hl]
end
section
variable {P : Program} {E : En P} {k : FuncId} {fd : FD} {vs : List V} {σ σ' : St} {o o' : CO}
theorem ev_raw (h : E.T k = some fd) (hl : vs.length ≤ fd.nt) (hz : fd.fz = .raw) (hr : run E false fd.res [.d fd.body] ⟨envOf vs, []⟩ σ = some (o, σ')) : ev E k vs σ = some (o, σ') := by
  rw [ev_eq h hl, hr]; simp [cutR, hz]
/-- A call that changes nothing: what it hands back is told whole. -/
theorem ev_pure (h : E.T k = some fd) (hl : vs.length ≤ fd.nt) (hz : fd.fz = .all) (hr : run E false fd.res [.d fd.body] ⟨envOf vs, []⟩ σ = some (o, σ')) (hH : ∀ l, l < σ.n → σ'.H l = σ.H l) (hW : σ'.W = σ.W)
    (ho : frzO σ'.H (fun l => decide (l < σ.n)) o = o') : ev E k vs σ = some (o', σ) := by
  rw [ev_eq h hl, hr]; simp [cutR, hz, frz_same hH hW, ho]
/-- .. that makes nothing, too. -/
theorem ev_same (h : E.T k = some fd) (hl : vs.length ≤ fd.nt) (hz : fd.fz = .all) (hr : run E false fd.res [.d fd.body] ⟨envOf vs, []⟩ σ = some (o, σ)) (ho : frzO σ.H (fun l => decide (l < σ.n)) o = o') : ev E k vs σ = some (o', σ) :=
  ev_pure h hl hz hr (fun _ _ => rfl) rfl ho
/-- A call that turns one row. -/
theorem ev_set {p : Nat} {b : Blk} (h : E.T k = some fd) (hl : vs.length ≤ fd.nt) (hz : fd.fz = .all) (hr : run E false fd.res [.d fd.body] ⟨envOf vs, []⟩ σ = some (o, σ')) (hp : p < σ.n)
    (hb : (σ'.H p).map (frzB σ'.H fun l => decide (l < σ.n)) = some b) (hH : ∀ l, l < σ.n → l ≠ p → σ'.H l = σ.H l) (hW : σ'.W = σ.W) (hb' : σ'.H p = σ.H p → σ.H p = some b)
    (ho : frzO σ'.H (fun l => decide (l < σ.n)) o = o') : ev E k vs σ = some (o', σ.set p b) := by
  rw [ev_eq h hl, hr]; simp [cutR, hz, frz_set hp hb hH hW hb', ho]
end
end Go.Proofs.Ytgmjeklneeljdaa.Ab
namespace Go.Proofs.Ytgmjeklneeljdaa.Ab
open Go.RowKit
set_option linter.unusedVariables false
set_option linter.unusedSimpArgs false
/-! Loops: where they land. -/
section
variable {P : Program} {E : En P} {dd : Bool} {rs : List RC} {s : List SE}
theorem r_loopU {ts : List Nat} {B b : D} {f : Fr} {σ : St} (h : B = b) : run E dd rs (.d (.loop ts B) :: s) f σ = run E dd rs (.d b :: .lp ts B :: s) (kp ts f) σ := by rw [r_loop, h]
/-- The run comes to go on there. -/
def Lands (E : En P) (dd : Bool) (rs : List RC) (s : List SE) (Q : Fr → St → Prop) (r : Option (CO × St)) : Prop := ∃ f' σ', r = run E dd rs s f' σ' ∧ Q f' σ'
theorem Lands.use {Q : Fr → St → Prop} {r x : Option (CO × St)} (h : Lands E dd rs s Q r) (k : ∀ f' σ', Q f' σ' → run E dd rs s f' σ' = x) : r = x := by
  obtain ⟨f', σ', rfl, h⟩ := h; exact k f' σ' h
theorem Lands.to {C : Option (CO × St) → Prop} {Q : Fr → St → Prop} {r : Option (CO × St)} (h : Lands E dd rs s Q r) (k : ∀ f' σ', Q f' σ' → C (run E dd rs s f' σ')) : C r := by
  obtain ⟨f', σ', rfl, h⟩ := h; exact k f' σ' h
theorem Lands.here {Q : Fr → St → Prop} {f : Fr} {σ : St} (h : Q f σ) : Lands E dd rs s Q (run E dd rs s f σ) := ⟨f, σ, rfl, h⟩
theorem Lands.mono {Q Q' : Fr → St → Prop} {r : Option (CO × St)} (h : Lands E dd rs s Q r) (k : ∀ f' σ', Q f' σ' → Q' f' σ') : Lands E dd rs s Q' r := by
  obtain ⟨f', σ', e, h⟩ := h; exact ⟨f', σ', e, k f' σ' h⟩
section
variable {f : Fr} {σ : St} {e e' : Env} {ds : List AD} {m : Nat} {ps : List Nat} {asg body : D} {gf : FuncId} {cap : List V} {ky : V} {all : List (List V)} {i : Nat} {x : List V}
theorem rng_in (g : Opd) (hn : noRnd s = true) (hg : g.ev f.env = .func (.func gf) [] cap) (hI : E.It gf cap σ = some (ky, all)) :
    run E dd rs (.d (.rng g ps asg body) :: s) f σ = run E dd rs (.rnd f.env f.ds σ.n ps asg body gf cap ky all 0 :: s) f (σ.new (.lp .busy)) := r_rng E dd rs s f σ g ps asg body hn hg hI
theorem rnd_end (h : σ.H m = some (.lp .busy)) (hI : E.It gf cap (σ.set m (.lp .ready)) = some (ky, all)) (hi : all[i]? = none) :
    run E dd rs (.rnd e ds m ps asg body gf cap ky all i :: s) f σ = run E dd rs s ⟨e, .coll :: ds⟩ (σ.kill m) := r_rnd_end E dd rs s f σ h hI hi
theorem rnd_at {b : D} (hb : body = b) (h : σ.H m = some (.lp .busy)) (hI : E.It gf cap (σ.set m (.lp .ready)) = some (ky, all)) (hi : all[i]? = some x) (hl : x.length = ps.length) (he : asgM asg (setPs e ps x) = some e') :
    run E dd rs (.rnd e ds m ps asg body gf cap ky all i :: s) f σ = run E dd rs (.d b :: .rnd e ds m ps asg body gf cap ky all (i + 1) :: s) ⟨e', []⟩ σ := by
  rw [← hb, r_rnd_at E dd rs s f σ h hI hi hl (asgM_E _ _ _ _ he) (by simp [St.set, upd]), set_back h]
/-- A round that lays down more than moves. -/
theorem rnd_atS {σ1 : St} {b : D} (hb : body = b) (h : σ.H m = some (.lp .busy)) (hI : E.It gf cap (σ.set m (.lp .ready)) = some (ky, all)) (hi : all[i]? = some x) (hl : x.length = ps.length) (he : asgE asg (setPs e ps x) (σ.set m (.lp .ready)) = some (e', σ1)) (hr : σ1.H m = some (.lp .ready)) :
    run E dd rs (.rnd e ds m ps asg body gf cap ky all i :: s) f σ = run E dd rs (.d b :: .rnd e ds m ps asg body gf cap ky all (i + 1) :: s) ⟨e', []⟩ (σ1.set m (.lp .busy)) := by rw [← hb]; exact r_rnd_at E dd rs s f σ h hI hi hl he hr
end
open Classical in
theorem r_cks {f : Fr} {σ : St} (q : RI) (qs : List RI) : run E dd rs (.ck (q :: qs) :: s) f σ = if chk q f σ then run E dd rs (.ck qs :: s) f σ else none := by
  rw [run_eq]; show nxF E (run E) dd rs (stCk q qs s f σ) = _
  unfold stCk; split <;> rfl
theorem chk_x {f : Fr} {σ : St} (d : Nat) (i : Ins) : chk ⟨some d, none, i⟩ f σ = (evI f.env σ i = some (f.env d, σ)) := rfl
theorem chk_n {f : Fr} {σ : St} (g : Option (Nat × Bool)) (i : Ins) : chk ⟨none, g, i⟩ f σ = True := rfl
end
/-! Stores that have grown: what was there is as it was. -/
structure Gr (σ σ' : St) : Prop where
  n : σ.n ≤ σ'.n
  H : ∀ l, l < σ.n → σ'.H l = σ.H l
  W : σ'.W = σ.W
section
variable {σ σ' τ : St} {z : Nat} {v : V} {es : List (List V)} {s : List UInt8}
theorem Gr.refl (σ : St) : Gr σ σ := ⟨Nat.le_refl _, fun _ _ => rfl, rfl⟩
theorem Gr.trans (h : Gr σ σ') (k : Gr σ' τ) : Gr σ τ := ⟨Nat.le_trans h.n k.n, fun l hl => (k.H l (Nat.lt_of_lt_of_le hl h.n)).trans (h.H l hl), k.W.trans h.W⟩
theorem Gr.new (h : Gr σ σ') (b : Blk) : Gr σ (σ'.new b) := ⟨by have := h.n; simp; omega, fun l hl => by have := h.n; simp [show l ≠ σ'.n by omega, h.H l hl], h.W⟩
theorem Gr.set (h : Gr σ σ') {l : Nat} (hl : σ.n ≤ l) (b : Blk) : Gr σ (σ'.set l b) := ⟨h.n, fun k hk => by simp [show k ≠ l by omega, h.H k hk], h.W⟩
theorem Gr.kill (h : Gr σ σ') {l : Nat} (hl : σ.n ≤ l) : Gr σ (σ'.kill l) := ⟨h.n, fun k hk => by simp [show k ≠ l by omega, h.H k hk], h.W⟩
theorem Gr.grown (h : Gr σ σ') (hv : ∀ l, v.row = some l → σ.n ≤ l) : Gr σ (grown σ' v) := by
  cases v <;> (try exact h)
  exact h.kill (hv _ rfl)
theorem Gr.turn (h : Gr σ σ') {p : Nat} (hp : σ.n ≤ p) (hn : τ.n = σ'.n) (hW : τ.W = σ'.W) (hH : ∀ l, l ≠ p → τ.H l = σ'.H l) : Gr σ τ :=
  ⟨by rw [hn]; exact h.n, fun l hl => (hH l (by omega)).trans (h.H l hl), hW.trans h.W⟩
theorem Bs.str (h : Bs σ v s) : b2sV σ v = some (.str s) := Bs.b2s h
/-- Values whose rows are there. -/
def V.old (σ : St) (v : V) : Prop := ∀ l off len, v = .slc l off len → l < σ.n
theorem Rd.gr (h : Rd σ z v es) (g : Gr σ σ') (ho : v.old σ) : Rd σ' z v es := h.mono fun l off len e => g.H l (ho l off len e)
theorem Bs.gr (h : Bs σ v s) (g : Gr σ σ') (ho : v.old σ) : Bs σ' v s := Rd.gr h g ho
theorem V.old_islc (z : Nat) (es : List (List V)) : (V.islc z es).old σ := fun _ _ _ h => by simp at h
theorem V.old_nils : (V.nils).old σ := fun _ _ _ h => by simp at h
theorem V.old_cut (h : v.old σ) (a b : Nat) : (cutV v a b).old σ := by
  cases v <;> first | exact h | (intro l off len e; simp [cutV] at e; try exact h _ _ _ (by rw [e.1]) )
theorem V.old_gr (h : v.old σ) (g : Gr σ σ') : v.old σ' := fun l off len e => Nat.lt_of_lt_of_le (h l off len e) g.n
theorem Rd.lda (h : Rd σ z v es) {i m : Nat} {e : List V} (he : es[i]? = some e) (hm : m = e.length) : ldaV σ m (elA v i) = some (.agg e) := by
  subst hm
  have hi : i < es.length := (List.getElem?_eq_some_iff.1 he).1
  rcases h.inv with ⟨rfl, rfl⟩ | rfl | ⟨l, off, rows, rfl, h1, h2, h3⟩
  · simp at he
  · simp [elA, he]
  · have : rows[off + i]? = some e := by
      rw [h3, List.getElem?_take, List.getElem?_drop] at he
      simpa [hi] using he
    simp [elA, h1, this]
/-- A slice of one's own, told whole. -/
def told (z : Nat) (v : V) (es : List (List V)) : V := match v with
  | .nils => .nils
  | _ => .islc z es
theorem Sl.frz (h : Sl σ z v es) {n : Nat → Bool} (hn : ∀ l, v.row = some l → n l = false) (hp : ∀ e ∈ es, ∀ u ∈ e, u.pure = true) (m : Nat) : frzC σ.H n (m + 1) v = told z v es := by
  rcases h with ⟨rfl, rfl⟩ | ⟨l, rfl, h⟩
  · rfl
  · rw [frz_slc _ _ m (hn l rfl) h (by omega) hp]
    simp [told]
theorem told_is {z : Nat} {v : V} {es : List (List V)} (h : v ≠ .nils) : told z v es = .islc z es := by
  cases v <;> first | rfl | exact absurd rfl h
theorem told_rd (h : Sl σ z v es) : Rd σ' z (told z v es) es := by
  rcases h with ⟨rfl, rfl⟩ | ⟨l, rfl, h⟩
  · rfl
  · simp [told, Rd, cont]
/-- A slice of one's own, made since. -/
structure Own (σ0 σ : St) (z : Nat) (v : V) (es : List (List V)) : Prop where
  sl : Sl σ z v es
  gr : Gr σ0 σ
  lo : ∀ k, v.row = some k → σ0.n ≤ k ∧ k < σ.n
theorem Own.rd {σ0 σ : St} (h : Own σ0 σ z v es) : Rd σ z v es := h.sl.rd
theorem Own.old {σ0 σ : St} (h : Own σ0 σ z v es) : v.old σ := fun l off len e => (h.lo l (by rw [e]; rfl)).2
theorem Own.nils (σ : St) (z : Nat) : Own σ σ z .nils [] := ⟨.inl ⟨rfl, rfl⟩, .refl _, fun k h => by simp [V.row] at h⟩
theorem Own.new {σ0 σ : St} (g : Gr σ0 σ) (z : Nat) (es : List (List V)) {n : Nat} (hn : n = es.length) : Own σ0 (σ.new (.row z es)) z (.slc σ.n 0 n) es :=
  ⟨.inr ⟨σ.n, by rw [hn], by simp⟩, g.new _, fun k h => by simp [V.row] at h; subst h; exact ⟨g.n, by simp⟩⟩
theorem Own.step {σ0 σ τ : St} (h : Own σ0 σ z v es) (g : Gr σ τ) : Own σ0 τ z v es :=
  ⟨h.sl.mono fun l hl => g.H l (h.lo l hl).2, h.gr.trans g, fun k hk => ⟨(h.lo k hk).1, Nat.lt_of_lt_of_le (h.lo k hk).2 g.n⟩⟩
theorem Own.app {σ0 σ : St} (h : Own σ0 σ z v es) {y : V} {ys : List (List V)} (hy : srcOf σ z y = some ys) (hne : ys ≠ []) {bytes : Nat} (hb : (es.length + ys.length) * bytes ≤ reach) (hr : es.length + ys.length ≤ reach) :
    appV σ bytes z v y = some (.slc σ.n 0 (es.length + ys.length), (grown σ v).new (.row z (es ++ ys))) ∧ Own σ0 ((grown σ v).new (.row z (es ++ ys))) z (.slc σ.n 0 (es.length + ys.length)) (es ++ ys) := by
  refine ⟨h.sl.app hy hne hb hr, ?_⟩
  have := Own.new (σ0 := σ0) (σ := grown σ v) (h.gr.grown fun l hl => (h.lo l hl).1) z (es ++ ys) (n := es.length + ys.length) (by simp)
  simpa using this
theorem Own.base {σ0 σ1 σ : St} (h : Own σ1 σ z v es) (g : Gr σ0 σ1) : Own σ0 σ z v es := ⟨h.sl, g.trans h.gr, fun k hk => ⟨Nat.le_trans g.n (h.lo k hk).1, (h.lo k hk).2⟩⟩
/-- Some more, or none. -/
theorem Own.appA {σ0 σ : St} (h : Own σ0 σ z v es) {y : V} {ys : List (List V)} (hy : srcOf σ z y = some ys) {bytes : Nat} (hb : (es.length + ys.length) * bytes ≤ reach) (hr : es.length + ys.length ≤ reach) :
    ∃ u τ, appV σ bytes z v y = some (u, τ) ∧ Own σ0 τ z u (es ++ ys) ∧ (v ≠ .nils → u ≠ .nils) := by
  by_cases hne : ys = []
  · subst hne
    exact ⟨v, σ, h.sl.app0 hy, by simpa using h, id⟩
  · obtain ⟨h1, h2⟩ := h.app hy hne hb hr
    exact ⟨_, _, h1, h2, fun _ => by simp⟩
/-- One more, that was just made. -/
theorem Own.app1 {σ0 σ : St} (h : Own σ0 σ z v es) (ys : List (List V)) (hne : ys ≠ []) {bytes : Nat} (hb : (es.length + ys.length) * bytes ≤ reach) (hr : es.length + ys.length ≤ reach) {n : Nat} (hn : n = ys.length) :
    ∃ u τ, appV (σ.new (.row z ys)) bytes z v (.slc σ.n 0 n) = some (u, τ) ∧ Own σ0 τ z u (es ++ ys) := by
  subst hn
  have h' := h.step ((Gr.refl σ).new (.row z ys))
  exact ⟨_, _, h'.app (by simp [srcOf, cont]) hne hb hr⟩
theorem Own.app1N {σ0 σ : St} (h : Own σ0 σ z v es) (ys : List (List V)) (hne : ys ≠ []) {bytes : Nat} (hb : (es.length + ys.length) * bytes ≤ reach) (hr : es.length + ys.length ≤ reach) {n : Nat} (hn : n = ys.length) :
    ∃ u τ, appV (σ.new (.row z ys)) bytes z v (.slc σ.n 0 n) = some (u, τ) ∧ Own σ0 τ z u (es ++ ys) ∧ (∀ k, u.row = some k → σ.n ≤ k) ∧ σ.n ≤ τ.n ∧ (∀ l, l < σ.n → v.row ≠ some l → τ.H l = σ.H l) := by
  subst hn
  have h' := h.step ((Gr.refl σ).new (.row z ys))
  obtain ⟨h1, h2⟩ := h'.app (y := .slc σ.n 0 ys.length) (ys := ys) (by simp [srcOf, cont]) hne hb hr
  refine ⟨_, _, h1, h2, fun k hk => ?_, by simp; omega, fun l hl hv => ?_⟩
  · simp [V.row] at hk; omega
  · have e1 : l ≠ (grown (σ.new (.row z ys)) v).n := by simp; omega
    simp only [new_H, if_neg e1, grown_H, if_neg hv]
    simp [show l ≠ σ.n by omega]
theorem Own.frz {σ0 σ : St} (h : Own σ0 σ z v es) (hp : ∀ e ∈ es, ∀ u ∈ e, u.pure = true) (m : Nat) : frzC σ.H (fun l => decide (l < σ0.n)) (m + 1) v = told z v es :=
  h.sl.frz (fun l hl => by have := (h.lo l hl).1; simp; omega) hp m
theorem Own.frzV {σ0 σ : St} (h : Own σ0 σ z v es) (hp : ∀ e ∈ es, ∀ u ∈ e, u.pure = true) : frzV σ.H (fun l => decide (l < σ0.n)) v = told z v es := by
  have := h.frz hp 3
  rcases h.sl with ⟨rfl, rfl⟩ | ⟨l, rfl, h'⟩
  · rfl
  · simpa using this
theorem Own.told {σ0 σ τ : St} (h : Own σ0 σ z v es) : Rd τ z (told z v es) es := told_rd h.sl
/-- A slice that is told whole. -/
def Tl (z : Nat) (v : V) (es : List (List V)) : Prop := (v = .nils ∧ es = []) ∨ v = .islc z es
theorem Tl.rd {σ : St} (h : Tl z v es) : Rd σ z v es := by
  rcases h with ⟨rfl, rfl⟩ | rfl
  · rfl
  · simp [Rd, cont]
theorem Tl.old {σ : St} (h : Tl z v es) : v.old σ := by
  rcases h with ⟨rfl, _⟩ | rfl
  · exact V.old_nils
  · exact V.old_islc _ _
theorem Tl.nils (z : Nat) : Tl z .nils [] := .inl ⟨rfl, rfl⟩
theorem Tl.islc (z : Nat) (es : List (List V)) : Tl z (.islc z es) es := .inr rfl
theorem Tl.frz (h : Tl z v es) (H : Nat → Option Blk) (n : Nat → Bool) (m : Nat) : frzC H n (m + 1) v = v := by
  rcases h with ⟨rfl, _⟩ | rfl <;> rfl
theorem Tl.frzV (h : Tl z v es) (H : Nat → Option Blk) (n : Nat → Bool) : frzV H n v = v := by
  rcases h with ⟨rfl, _⟩ | rfl <;> rfl
theorem Tl.scal (h : Tl z v es) : v.scal = true := by rcases h with ⟨rfl, _⟩ | rfl <;> rfl
theorem Own.tl {σ0 σ : St} (h : Own σ0 σ z v es) : Tl z (Go.Proofs.Ytgmjeklneeljdaa.Ab.told z v es) es := by
  rcases h.sl with ⟨rfl, rfl⟩ | ⟨l, rfl, h⟩
  · exact .inl ⟨rfl, rfl⟩
  · exact .inr rfl
end
/-! Calls that hand back a new row by its name. -/
section
variable {P : Program} {E : En P} {k : FuncId} {fd : FD} {vs : List V} {σ σ' : St} {o o' : CO}
/-- One new row stays. -/
def St.add (σ : St) (p : Nat) (b : Blk) : St := ⟨fun l => if l = p then some b else σ.H l, p + 1, σ.W⟩
theorem add_gr {p : Nat} (hp : σ.n ≤ p) (b : Blk) : Gr σ (σ.add p b) := ⟨by simp [St.add]; omega, fun l hl => by simp [St.add, show l ≠ p by omega], rfl⟩
@[simp] theorem add_n {p : Nat} (b : Blk) : (σ.add p b).n = p + 1 := rfl
@[simp] theorem add_W {p : Nat} (b : Blk) : (σ.add p b).W = σ.W := rfl
@[simp] theorem add_H {p : Nat} (b : Blk) (l : Nat) : (σ.add p b).H l = if l = p then some b else σ.H l := rfl
theorem ev_own0 (h : E.T k = some fd) (hl : vs.length ≤ fd.nt) (hz : fd.fz = .own) (hr : run E false fd.res [.d fd.body] ⟨envOf vs, []⟩ σ = some (o, σ')) (hp : ptrs o = []) (hH : ∀ l, l < σ.n → σ'.H l = σ.H l) (hW : σ'.W = σ.W)
    (ho : frzO σ'.H (fun l => decide (l < σ.n)) o = o') : ev E k vs σ = some (o', σ) := by
  rw [ev_eq h hl, hr]
  simp only [cutR, hz, hp, Option.map_some, List.contains_nil, Bool.or_false, List.foldl_nil, frz_same hH hW, ho]
theorem ev_own1 (h : E.T k = some fd) (hl : vs.length ≤ fd.nt) (hz : fd.fz = .own) (hr : run E false fd.res [.d fd.body] ⟨envOf vs, []⟩ σ = some (o, σ')) {p : Nat} {b : Blk} (hp : ptrs o = [p]) (hn : σ.n ≤ p) (h0 : σ.H p = none)
    (hb : (σ'.H p).map (frzB σ'.H fun l => decide (l < σ.n) || [p].contains l) = some b) (hH : ∀ l, l < σ.n → σ'.H l = σ.H l) (hW : σ'.W = σ.W)
    (ho : frzO σ'.H (fun l => decide (l < σ.n) || [p].contains l) o = o') : ev E k vs σ = some (o', σ.add p b) := by
  rw [ev_eq h hl, hr]
  simp only [cutR, hz, hp, Option.map_some, ho, Option.some.injEq, Prod.mk.injEq, true_and]
  refine St.ext' (fun l => ?_) (by simp [St.frz]; omega) hW
  simp only [St.frz, add_H]
  by_cases e : l = p
  · subst e
    have hne : ¬ σ'.H l = σ.H l := fun e => by rw [e, h0] at hb; simp at hb
    simp [hne] at hb ⊢
    exact hb
  · by_cases hl : l < σ.n
    · simp [hl, e, hH l hl]
    · simp [hl, e]
end
end Go.Proofs.Ytgmjeklneeljdaa.Ab
namespace Go.Proofs.Ytgmjeklneeljdaa
open Go.Proofs.Ytgmjeklneeljdaa.Ab
set_option linter.unusedVariables false
set_option linter.unusedSimpArgs false
/-! What the tokens of a text are, in plain words. -/
def smallB (c : UInt8) : Bool := decide (97 ≤ c.toNat ∧ c.toNat ≤ 122)
def digitB (c : UInt8) : Bool := decide (48 ≤ c.toNat ∧ c.toNat ≤ 57)
def goesB (c : UInt8) : Bool := smallB c || digitB c || c.toNat == 95
def blankB (c : UInt8) : Bool := c.toNat == 32 || c.toNat == 9 || c.toNat == 10 || c.toNat == 13
def slashB : List UInt8 → Bool
  | [] => false
  | c :: _ => c.toNat == 47
/-- A byte of a blank, or of a remark (that may have begun ahead). -/
def offB (r : Bool) (c : UInt8) (t : List UInt8) : Bool := r && c.toNat != 10 || (c.toNat == 47 && slashB t)
def skipF : Bool → List UInt8 → List UInt8
  | _, [] => []
  | r, c :: t => if offB r c t || blankB c then skipF (offB r c t) t else c :: t
def wordsL : List (List UInt8) := [[102, 110], [112, 117, 98], [113, 117, 97, 108], [108, 101, 116], [105, 110], [105, 102], [116, 104, 101, 110], [101, 108, 115, 101], [97, 115, 115, 101, 114, 116], [116, 114, 117, 101], [102, 97, 108, 115, 101], [105, 110, 116], [98, 111, 111, 108], [97, 114, 114], [103, 101, 116], [115, 101, 116], [108, 101, 110], [102, 105, 108, 108], [110, 111, 116], [97, 110, 100], [111, 114], [118]]
def wordB (s : List UInt8) : Bool := decide (s ∈ wordsL)
def twoB (c d : UInt8) : Bool := (c.toNat == 45 && d.toNat == 62) || (c.toNat == 60 && d.toNat == 61) || (c.toNat == 62 && d.toNat == 61) || (c.toNat == 33 && d.toNat == 61)
def oneL : List Nat := [40, 41, 123, 125, 44, 58, 61, 59, 43, 45, 42, 47, 37, 60, 62]
def twoS : UInt8 → List UInt8 → Bool
  | _, [] => false
  | c, d :: _ => twoB c d
def signF : List UInt8 → Nat
  | [] => 0
  | c :: t => if twoS c t then 2 else if oneL.contains c.toNat then 1 else 0
structure TK where
  kind : Nat
  txt : List UInt8
  fr : Nat
/-- The token that begins a text: its kind, its bytes; or the error. -/
def tokF (s : List UInt8) : Nat × List UInt8 × Nat :=
  match s with
  | [] => (0, [], 20)
  | c :: _ =>
    if smallB c then
      (if (s.takeWhile goesB).length > 24 then (0, [], 3) else (if wordB (s.takeWhile goesB) then 2 else 1, s.takeWhile goesB, 0))
    else if digitB c then
      (if (s.takeWhile digitB).length > 40 then (0, [], 3) else (3, s.takeWhile digitB, 0))
    else if signF s = 0 then (0, [], 20) else (4, s.take (signF s), 0)
theorem tokF_name {c : UInt8} {t : List UInt8} (h : smallB c = true) : tokF (c :: t) = (if ((c :: t).takeWhile goesB).length > 24 then (0, [], 3) else (if wordB ((c :: t).takeWhile goesB) then 2 else 1, (c :: t).takeWhile goesB, 0)) := by
  simp only [tokF, h, if_true]
theorem tokF_dig {c : UInt8} {t : List UInt8} (h : smallB c = false) (h2 : digitB c = true) : tokF (c :: t) = (if ((c :: t).takeWhile digitB).length > 40 then (0, [], 3) else (3, (c :: t).takeWhile digitB, 0)) := by
  unfold tokF
  simp only [h, h2, if_true]
  rfl
theorem tokF_sign {c : UInt8} {t : List UInt8} (h : smallB c = false) (h2 : digitB c = false) : tokF (c :: t) = (if signF (c :: t) = 0 then (0, [], 20) else (4, (c :: t).take (signF (c :: t)), 0)) := by
  unfold tokF
  simp only [h, h2]
  rfl
theorem sign_cons (c : UInt8) (t : List UInt8) : signF (c :: t) = if twoS c t = true then 2 else if oneL.contains c.toNat = true then 1 else 0 := rfl
theorem sign_le (c : UInt8) (t : List UInt8) : signF (c :: t) ≤ (c :: t).length ∧ signF (c :: t) ≤ 2 := by
  unfold signF
  cases t with
  | nil => simp [twoS]; split <;> omega
  | cons d t => simp only [List.length_cons]; split <;> (try split) <;> omega
theorem take_takeWhile {α : Type} (p : α → Bool) : ∀ l : List α, l.take (l.takeWhile p).length = l.takeWhile p
  | [] => rfl
  | c :: t => by
    by_cases h : p c = true
    · rw [List.takeWhile_cons_of_pos h]; simp only [List.length_cons, List.take_succ_cons, take_takeWhile p t]
    · rw [List.takeWhile_cons_of_neg h]; rfl
theorem takeWhile_le {α : Type} (p : α → Bool) (l : List α) : (l.takeWhile p).length ≤ l.length := (List.takeWhile_prefix p).length_le
theorem skip_suf : ∀ (s : List UInt8) (r : Bool), skipF r s <:+ s
  | [], r => by simp [skipF]
  | c :: t, r => by
    unfold skipF
    split
    · exact (skip_suf t _).trans (List.suffix_cons c t)
    · exact List.suffix_refl _
theorem suf_drop {b s : List UInt8} (h : s <:+ b) : b.drop (b.length - s.length) = s := (List.suffix_iff_eq_drop.1 h).symm
theorem tok_len {c : UInt8} {t : List UInt8} (h : (tokF (c :: t)).2.2 = 0) : 1 ≤ (tokF (c :: t)).2.1.length ∧ (tokF (c :: t)).2.1 = (c :: t).take (tokF (c :: t)).2.1.length ∧ (tokF (c :: t)).2.1.length ≤ (c :: t).length := by
  cases g : smallB c with
  | true =>
    rw [tokF_name g] at h ⊢
    have hg : goesB c = true := by simp [goesB, g]
    split at h
    · simp at h
    · rename_i l
      rw [if_neg l]
      refine ⟨?_, (take_takeWhile _ _).symm, takeWhile_le _ _⟩
      rw [List.takeWhile_cons_of_pos hg]; simp
  | false =>
    cases g2 : digitB c with
    | true =>
      rw [tokF_dig g g2] at h ⊢
      split at h
      · simp at h
      · rename_i l
        rw [if_neg l]
        refine ⟨?_, (take_takeWhile _ _).symm, takeWhile_le _ _⟩
        rw [List.takeWhile_cons_of_pos g2]; simp
    | false =>
      rw [tokF_sign g g2] at h ⊢
      split at h
      · simp at h
      · rename_i l
        rw [if_neg l]
        have hs := (sign_le c t).1
        have e2 : ((c :: t).take (signF (c :: t))).length = signF (c :: t) := by rw [List.length_take]; omega
        simp only [e2]
        exact ⟨by omega, trivial, hs⟩
/-- The tokens of a rest of a text of L bytes, by rounds; behind them where it goes wrong, and how. -/
def toksF (L : Nat) : Nat → List UInt8 → List TK × Nat × Nat
  | 0, _ => ([], 0, 0)
  | n + 1, s => match skipF false s with
    | [] => ([⟨0, [], L⟩], 0, 0)
    | c :: t =>
      if (tokF (c :: t)).2.2 = 0 then
        (if (toksF L n ((c :: t).drop (tokF (c :: t)).2.1.length)).2.2 = 0 then (⟨(tokF (c :: t)).1, (tokF (c :: t)).2.1, L - (c :: t).length⟩ :: (toksF L n ((c :: t).drop (tokF (c :: t)).2.1.length)).1, 0, 0)
        else ([], (toksF L n ((c :: t).drop (tokF (c :: t)).2.1.length)).2.1, (toksF L n ((c :: t).drop (tokF (c :: t)).2.1.length)).2.2))
      else ([], L - (c :: t).length, (tokF (c :: t)).2.2)
end Go.Proofs.Ytgmjeklneeljdaa
