/-
The program, told with what its values say. No further condition.
-/
import Derived.Test.YtmkgmjdbgjiehaaDoorAbS
import Derived.Test.YtmkgmjdbgjiehaaDoorProg
import Derived.KernelRfl
namespace Go.Proofs.YtmkgmjdbgjiehaaDoor
open Go.Proofs.YtmkgmjdbgjiehaaDoor.Ab
set_option maxRecDepth 100000
def d7 : D := .seq (.reg [⟨some 2, none, .mv (.c (.bool false))⟩]) (.kb [0] (.seq (.seq (.reg [⟨some 10, none, .call 8 []⟩,
  ⟨some 11, none, .un .not (.t 10)⟩,
  ⟨some 12, none, .mv (.t 11)⟩,
  ⟨some 13, some (12, false), .mv (.t 0)⟩,
  ⟨some 14, some (12, false), .llen (.t 13)⟩,
  ⟨some 15, some (12, false), .bin .gtr (.t 14) (.c (.int .i64 2000))⟩,
  ⟨some 16, none, .pick (.t 12) (.c (.bool true)) (.t 15)⟩]) (.kb [0, 16] (.cond (.t 16) (.seq (.reg [⟨some 17, none, .call 8 []⟩,
  ⟨some 2, none, .mv (.t 17)⟩]) .ret) .skip))) (.kb [0] (.seq (.reg [⟨some 19, none, .mv (.t 0)⟩,
  ⟨some 20, none, .call 9 [.t 19]⟩,
  ⟨some 18, none, .mv (.t 20)⟩,
  ⟨some 21, none, .ext (.t 18) 0⟩,
  ⟨some 22, none, .ext (.t 18) 1⟩,
  ⟨some 23, none, .ext (.t 18) 2⟩,
  ⟨some 3, none, .new [.int .i64 0, .bool false, .str [], .int .i64 0, .int .i64 0, .nils, .int .i64 0, .int .i64 0, .nils, .int .i64 0, .int .i64 0, .int .i64 0, .str [], .bool false, .nils, .nils, .int .i64 0, .int .i64 0]⟩,
  ⟨some 4, none, .new [.int .i64 0, .int .i64 0]⟩,
  ⟨none, none, .st 18 (.t 3) (.t 21)⟩,
  ⟨none, none, .st 2 (.t 4) (.t 22)⟩,
  ⟨some 5, none, .mv (.t 23)⟩]) (.kb [3, 5] (.seq (.seq (.reg [⟨some 24, none, .mv (.t 5)⟩,
  ⟨some 25, none, .bin .neq (.t 24) (.c (.int .i64 0))⟩]) (.kb [3, 25] (.cond (.t 25) (.seq (.reg [⟨some 2, none, .mv (.c (.bool true))⟩]) .ret) .skip))) (.kb [3] (.seq (.reg [⟨some 26, none, .lda 18 (.t 3)⟩,
  ⟨some 27, none, .call 10 [.t 26]⟩,
  ⟨some 6, none, .mv (.t 27)⟩]) (.kb [3, 6] (.seq (.reg [⟨some 29, none, .mv (.t 6)⟩,
  ⟨some 30, none, .s2b (.t 29)⟩,
  ⟨some 31, none, .call 9 [.t 30]⟩,
  ⟨some 28, none, .mv (.t 31)⟩,
  ⟨some 32, none, .ext (.t 28) 0⟩,
  ⟨some 33, none, .ext (.t 28) 1⟩,
  ⟨some 34, none, .ext (.t 28) 2⟩,
  ⟨some 7, none, .new [.int .i64 0, .bool false, .str [], .int .i64 0, .int .i64 0, .nils, .int .i64 0, .int .i64 0, .nils, .int .i64 0, .int .i64 0, .int .i64 0, .str [], .bool false, .nils, .nils, .int .i64 0, .int .i64 0]⟩,
  ⟨some 8, none, .new [.int .i64 0, .int .i64 0]⟩,
  ⟨none, none, .st 18 (.t 7) (.t 32)⟩,
  ⟨none, none, .st 2 (.t 8) (.t 33)⟩,
  ⟨some 9, none, .mv (.t 34)⟩]) (.kb [3, 6, 7, 9] (.seq (.seq (.reg [⟨some 35, none, .mv (.t 9)⟩,
  ⟨some 36, none, .bin .neq (.t 35) (.c (.int .i64 0))⟩]) (.kb [3, 6, 7, 9, 36] (.cond (.t 36) (.seq (.reg [⟨some 37, none, .mv (.t 9)⟩,
  ⟨some 38, none, .bin .eql (.t 37) (.c (.int .i64 13))⟩,
  ⟨some 2, none, .mv (.t 38)⟩]) .ret) .skip))) (.kb [3, 6, 7] (.seq (.drw (.q ⟨some 39, none, .lda 18 (.t 7)⟩ (.q ⟨some 41, none, .mv (.t 6)⟩ (.alt ⟨some 40, none, .call 10 [.t 39]⟩ [] (.q ⟨some 42, none, .bin .eql (.t 40) (.t 41)⟩ (.q ⟨some 43, none, .mv (.t 42)⟩ (.q ⟨some 44, some (43, true), .fa 11 (.t 7)⟩ (.q ⟨some 45, some (43, true), .lda 7 (.t 44)⟩ (.q ⟨some 46, some (43, true), .fa 11 (.t 3)⟩ (.q ⟨some 47, some (43, true), .lda 7 (.t 46)⟩ (.alt ⟨some 48, some (43, true), .call 11 [.t 45, .t 47]⟩ [] (.q ⟨some 49, none, .pick (.t 43) (.t 48) (.c (.bool false))⟩ (.q ⟨some 50, none, .mv (.t 49)⟩ (.q ⟨some 51, some (50, true), .fa 11 (.t 7)⟩ (.q ⟨some 52, some (50, true), .lda 7 (.t 51)⟩ (.q ⟨some 54, some (50, true), .fa 11 (.t 3)⟩ (.q ⟨some 55, some (50, true), .lda 7 (.t 54)⟩ (.alt ⟨some 53, some (50, true), .call 15 [.t 52]⟩ [⟨some 55, some (50, true), .lda 7 (.t 54)⟩] (.alt ⟨some 56, some (50, true), .call 15 [.t 55]⟩ [] (.alt ⟨some 57, some (50, true), .call 11 [.t 53, .t 56]⟩ [] (.q ⟨some 58, none, .pick (.t 50) (.t 57) (.c (.bool false))⟩ (.q ⟨some 59, none, .mv (.t 58)⟩ (.q ⟨some 60, some (59, true), .fa 2 (.t 7)⟩ (.q ⟨some 61, some (59, true), .ld (.t 60)⟩ (.q ⟨some 62, some (59, true), .fa 2 (.t 3)⟩ (.q ⟨some 63, some (59, true), .ld (.t 62)⟩ (.q ⟨some 64, some (59, true), .bin .eql (.t 61) (.t 63)⟩ (.q ⟨some 65, none, .pick (.t 59) (.t 64) (.c (.bool false))⟩ (.q ⟨some 66, none, .mv (.t 65)⟩ (.q ⟨some 67, some (66, true), .fa 5 (.t 7)⟩ (.q ⟨some 68, some (66, true), .ld (.t 67)⟩ (.q ⟨some 69, some (66, true), .llen (.t 68)⟩ (.q ⟨some 70, some (66, true), .fa 5 (.t 3)⟩ (.q ⟨some 71, some (66, true), .ld (.t 70)⟩ (.q ⟨some 72, some (66, true), .llen (.t 71)⟩ (.q ⟨some 73, some (66, true), .bin .eql (.t 69) (.t 72)⟩ (.q ⟨some 74, none, .pick (.t 66) (.t 73) (.c (.bool false))⟩ (.q ⟨some 2, none, .mv (.t 74)⟩ (.done))))))))))))))))))) (.stop)) (.stop)) (.stop)))))))) (.stop)))))))) (.stop))))) .ret))))))))))))))
def f7 : FD := ⟨75, [.t 2], d7, .all⟩
theorem ok7 : compF planOf Tryd.prog 7 = some ⟨75, [.t 2], d7.er⟩ := by kernel_rfl
def d8 : D := .seq (.reg [⟨some 0, none, .mv (.c (.bool false))⟩]) (.kb [] (.seq (.reg [⟨some 8, none, .bslice [.int .u8 0] 35 [(0, .c (.int .u8 102)), (1, .c (.int .u8 110)), (2, .c (.int .u8 32)), (3, .c (.int .u8 102)), (4, .c (.int .u8 40)), (5, .c (.int .u8 120)), (6, .c (.int .u8 58)), (7, .c (.int .u8 32)), (8, .c (.int .u8 105)), (9, .c (.int .u8 110)), (10, .c (.int .u8 116)), (11, .c (.int .u8 123)), (12, .c (.int .u8 118)), (13, .c (.int .u8 32)), (14, .c (.int .u8 62)), (15, .c (.int .u8 32)), (16, .c (.int .u8 48)), (17, .c (.int .u8 125)), (18, .c (.int .u8 41)), (19, .c (.int .u8 32)), (20, .c (.int .u8 45)), (21, .c (.int .u8 62)), (22, .c (.int .u8 32)), (23, .c (.int .u8 105)), (24, .c (.int .u8 110)), (25, .c (.int .u8 116)), (26, .c (.int .u8 32)), (27, .c (.int .u8 61)), (28, .c (.int .u8 32)), (29, .c (.int .u8 120)), (30, .c (.int .u8 43)), (31, .c (.int .u8 49)), (32, .c (.int .u8 42)), (33, .c (.int .u8 50)), (34, .c (.int .u8 59))]⟩,
  ⟨some 9, none, .b2b (.t 8)⟩,
  ⟨some 10, none, .call 9 [.t 9]⟩,
  ⟨some 7, none, .mv (.t 10)⟩,
  ⟨some 11, none, .ext (.t 7) 0⟩,
  ⟨some 12, none, .ext (.t 7) 1⟩,
  ⟨some 13, none, .ext (.t 7) 2⟩,
  ⟨some 1, none, .new [.int .i64 0, .bool false, .str [], .int .i64 0, .int .i64 0, .nils, .int .i64 0, .int .i64 0, .nils, .int .i64 0, .int .i64 0, .int .i64 0, .str [], .bool false, .nils, .nils, .int .i64 0, .int .i64 0]⟩,
  ⟨some 2, none, .new [.int .i64 0, .int .i64 0]⟩,
  ⟨none, none, .st 18 (.t 1) (.t 11)⟩,
  ⟨none, none, .st 2 (.t 2) (.t 12)⟩,
  ⟨some 3, none, .mv (.t 13)⟩]) (.kb [1, 3] (.seq (.reg [⟨some 15, none, .bslice [.int .u8 0] 17 [(0, .c (.int .u8 102)), (1, .c (.int .u8 110)), (2, .c (.int .u8 32)), (3, .c (.int .u8 102)), (4, .c (.int .u8 40)), (5, .c (.int .u8 41)), (6, .c (.int .u8 32)), (7, .c (.int .u8 45)), (8, .c (.int .u8 62)), (9, .c (.int .u8 32)), (10, .c (.int .u8 105)), (11, .c (.int .u8 110)), (12, .c (.int .u8 116)), (13, .c (.int .u8 32)), (14, .c (.int .u8 61)), (15, .c (.int .u8 32)), (16, .c (.int .u8 49))]⟩,
  ⟨some 16, none, .b2b (.t 15)⟩,
  ⟨some 17, none, .call 9 [.t 16]⟩,
  ⟨some 14, none, .mv (.t 17)⟩,
  ⟨some 18, none, .ext (.t 14) 0⟩,
  ⟨some 19, none, .ext (.t 14) 1⟩,
  ⟨some 20, none, .ext (.t 14) 2⟩,
  ⟨some 4, none, .new [.int .i64 0, .bool false, .str [], .int .i64 0, .int .i64 0, .nils, .int .i64 0, .int .i64 0, .nils, .int .i64 0, .int .i64 0, .int .i64 0, .str [], .bool false, .nils, .nils, .int .i64 0, .int .i64 0]⟩,
  ⟨some 5, none, .new [.int .i64 0, .int .i64 0]⟩,
  ⟨none, none, .st 18 (.t 4) (.t 18)⟩,
  ⟨none, none, .st 2 (.t 5) (.t 19)⟩,
  ⟨some 6, none, .mv (.t 20)⟩]) (.kb [1, 3, 5, 6] (.seq (.reg [⟨some 21, none, .mv (.t 3)⟩,
  ⟨some 22, none, .bin .eql (.t 21) (.c (.int .i64 0))⟩,
  ⟨some 23, none, .mv (.t 22)⟩,
  ⟨some 24, some (23, true), .lda 18 (.t 1)⟩,
  ⟨some 25, some (23, true), .call 10 [.t 24]⟩,
  ⟨some 26, some (23, true), .bin .eql (.t 25) (.c (.str [102, 110, 32, 102, 40, 120, 58, 32, 105, 110, 116, 123, 118, 32, 62, 32, 48, 125, 41, 32, 45, 62, 32, 105, 110, 116, 32, 61, 32, 120, 32, 43, 32, 49, 32, 42, 32, 50, 59]))⟩,
  ⟨some 27, none, .pick (.t 23) (.t 26) (.c (.bool false))⟩,
  ⟨some 28, none, .mv (.t 27)⟩,
  ⟨some 29, some (28, true), .mv (.t 6)⟩,
  ⟨some 30, some (28, true), .bin .eql (.t 29) (.c (.int .i64 11))⟩,
  ⟨some 31, none, .pick (.t 28) (.t 30) (.c (.bool false))⟩,
  ⟨some 32, none, .mv (.t 31)⟩,
  ⟨some 33, some (32, true), .lda 2 (.t 5)⟩,
  ⟨some 34, some (32, true), .build [.int .i64 0, .int .i64 0] [(0, 1, .c (.int .i64 17)), (1, 1, .c (.int .i64 17))]⟩,
  ⟨some 35, some (32, true), .eqa false [.int, .int] (.t 33) (.t 34)⟩,
  ⟨some 36, none, .pick (.t 32) (.t 35) (.c (.bool false))⟩,
  ⟨some 0, none, .mv (.t 36)⟩]) .ret))))))
def f8 : FD := ⟨37, [.t 0], d8, .all⟩
theorem ok8 : compF planOf Tryd.prog 8 = some ⟨37, [.t 0], d8.er⟩ := by kernel_rfl
def d9 : D := .seq (.reg [⟨some 2, none, .new [.int .i64 0, .bool false, .str [], .int .i64 0, .int .i64 0, .nils, .int .i64 0, .int .i64 0, .nils, .int .i64 0, .int .i64 0, .int .i64 0, .str [], .bool false, .nils, .nils, .int .i64 0, .int .i64 0]⟩,
  ⟨some 3, none, .new [.int .i64 0, .int .i64 0]⟩,
  ⟨some 4, none, .new [.int .i64 0]⟩]) (.kb [0, 2, 3, 4] (.seq (.reg [⟨some 9, none, .mv (.t 0)⟩,
  ⟨some 10, none, .call 16 [.t 9]⟩,
  ⟨some 8, none, .mv (.t 10)⟩,
  ⟨some 11, none, .ext (.t 8) 0⟩,
  ⟨some 12, none, .ext (.t 8) 1⟩,
  ⟨some 13, none, .ext (.t 8) 2⟩,
  ⟨some 5, none, .mv (.t 11)⟩,
  ⟨some 6, none, .mv (.t 12)⟩,
  ⟨none, none, .st 1 (.t 4) (.t 13)⟩]) (.kb [2, 3, 4, 5, 6] (.seq (.seq (.reg [⟨some 14, none, .ld (.t 4)⟩,
  ⟨some 15, none, .bin .neq (.t 14) (.c (.int .i64 0))⟩]) (.kb [2, 3, 4, 5, 6, 15] (.cond (.t 15) (.seq (.drw (.q ⟨some 16, none, .build [.int .i64 0, .bool false, .str [], .int .i64 0, .int .i64 0, .nils, .int .i64 0, .int .i64 0, .nils, .int .i64 0, .int .i64 0, .int .i64 0, .str [], .bool false, .nils, .nils, .int .i64 0, .int .i64 0] []⟩ (.q ⟨some 17, none, .mv (.t 6)⟩ (.q ⟨some 18, none, .mv (.t 6)⟩ (.q ⟨some 19, none, .bin .add (.t 18) (.c (.int .i64 1))⟩ (.q ⟨some 20, none, .build [.int .i64 0, .int .i64 0] [(0, 1, .t 17), (1, 1, .t 19)]⟩ (.q ⟨some 21, none, .ld (.t 4)⟩ (.alt ⟨none, none, .st 18 (.t 2) (.t 16)⟩ [⟨some 21, none, .ld (.t 4)⟩] (.alt ⟨none, none, .st 2 (.t 3) (.t 20)⟩ [⟨some 21, none, .ld (.t 4)⟩] (.alt ⟨none, none, .st 1 (.t 4) (.t 21)⟩ [] (.done) (.stop)) (.stop)) (.stop))))))))) .ret) .skip))) (.kb [2, 3, 4, 5] (.seq (.reg [⟨some 22, none, .mv (.t 5)⟩,
  ⟨some 23, none, .build [.nils, .int .i64 0, .int .i64 0] [(0, 1, .t 22)]⟩,
  ⟨some 24, none, .box (.t 23)⟩,
  ⟨some 7, none, .mv (.t 24)⟩]) (.kb [2, 3, 4, 7] (.seq (.reg [⟨some 25, none, .mkf (.func 17) [] [.t 2, .t 3, .t 4]⟩,
  ⟨none, none, .defer (.t 25) []⟩]) (.kb [2, 3, 4, 7] (.seq (.reg [⟨some 26, none, .mv (.t 7)⟩,
  ⟨some 27, none, .call 18 [.t 26]⟩,
  ⟨some 28, none, .build [.int .i64 0, .int .i64 0] []⟩,
  ⟨none, none, .st 18 (.t 2) (.t 27)⟩,
  ⟨none, none, .st 2 (.t 3) (.t 28)⟩,
  ⟨none, none, .st 1 (.t 4) (.c (.int .i64 0))⟩]) .ret))))))))))
def f9 : FD := ⟨29, [.c 2 (some 18), .c 3 (some 2), .c 4 none], d9, .all⟩
theorem ok9 : compF planOf Tryd.prog 9 = some ⟨29, [.c 2 (some 18), .c 3 (some 2), .c 4 none], d9.er⟩ := by kernel_rfl
def b10_0 : D := .seq (.reg [⟨some 11, none, .bin .lss (.t 10) (.t 9)⟩]) (.kb [1, 3, 8, 9, 10, 11] (.seq (.cond (.t 11) .skip (.exit 0)) (.kb [1, 3, 8, 9, 10] (.seq (.block 1 (.seq (.reg [⟨some 12, none, .ia 8 (.t 8) (.t 10)⟩,
  ⟨some 13, none, .lda 8 (.t 12)⟩,
  ⟨some 5, none, .new [.str [], .int .i64 0, .int .i64 0, .nils, .int .i64 0, .int .i64 0, .int .i64 0, .int .i64 0]⟩,
  ⟨none, none, .st 8 (.t 5) (.t 13)⟩]) (.kb [1, 3, 5, 8, 9, 10] (.seq (.reg [⟨some 14, none, .fa 0 (.t 1)⟩,
  ⟨some 15, none, .ld (.t 14)⟩,
  ⟨some 16, none, .bin .eql (.t 15) (.c (.int .i64 2))⟩]) (.kb [1, 3, 5, 8, 9, 10, 16] (.cond (.t 16) (.reg [⟨some 17, none, .mv (.t 3)⟩,
  ⟨some 18, none, .fa 0 (.t 5)⟩,
  ⟨some 19, none, .ld (.t 18)⟩,
  ⟨some 20, none, .bslice [.str []] 1 [(0, .t 19)]⟩,
  ⟨some 21, none, .app 16 1 (.t 17) (.t 20)⟩,
  ⟨some 3, none, .mv (.t 21)⟩]) (.drw (.q ⟨some 22, none, .mv (.t 3)⟩ (.q ⟨some 23, none, .fa 0 (.t 5)⟩ (.q ⟨some 24, none, .ld (.t 23)⟩ (.q ⟨some 25, none, .bin .add (.t 24) (.c (.str [58, 32]))⟩ (.q ⟨some 26, none, .fa 1 (.t 5)⟩ (.q ⟨some 27, none, .lda 5 (.t 26)⟩ (.alt ⟨some 28, none, .call 19 [.t 27]⟩ [⟨some 24, none, .ld (.t 23)⟩] (.q ⟨some 29, none, .bin .add (.t 25) (.t 28)⟩ (.alt ⟨some 30, none, .bslice [.str []] 1 [(0, .t 29)]⟩ [] (.alt ⟨some 31, none, .app 16 1 (.t 22) (.t 30)⟩ [] (.alt ⟨some 3, none, .mv (.t 31)⟩ [] (.done) (.stop)) (.stop)) (.stop))) (.stop))))))))))))))) (.kb [1, 3, 8, 9, 10] (.reg [⟨some 32, none, .bin .add (.t 10) (.c (.int .i64 1))⟩,
  ⟨some 10, none, .mv (.t 32)⟩]))))))
def d10 : D := .seq (.reg [⟨some 1, none, .box (.t 0)⟩,
  ⟨some 2, none, .mv (.c (.str []))⟩]) (.kb [1] (.seq (.reg [⟨some 3, none, .mv (.c (.nils))⟩]) (.kb [1, 3] (.seq (.seq (.reg [⟨some 7, none, .fa 5 (.t 1)⟩,
  ⟨some 8, none, .ld (.t 7)⟩,
  ⟨some 9, none, .llen (.t 8)⟩,
  ⟨some 10, none, .mv (.c (.int .i64 0))⟩]) (.kb [1, 3, 8, 9, 10] (.block 0 (.loop [1, 3, 8, 9, 10] b10_0)))) (.kb [1, 3] (.seq (.drw (.q ⟨some 33, none, .fa 2 (.t 1)⟩ (.q ⟨some 34, none, .ld (.t 33)⟩ (.q ⟨some 35, none, .bin .add (.c (.str [113, 117, 97, 108, 32])) (.t 34)⟩ (.q ⟨some 36, none, .bin .add (.t 35) (.c (.str [40]))⟩ (.q ⟨some 37, none, .mv (.t 3)⟩ (.alt ⟨some 38, none, .call 20 [.t 37, .c (.str [44, 32])]⟩ [⟨some 34, none, .ld (.t 33)⟩] (.q ⟨some 39, none, .bin .add (.t 36) (.t 38)⟩ (.q ⟨some 40, none, .bin .add (.t 39) (.c (.str [41]))⟩ (.q ⟨some 6, none, .mv (.t 40)⟩ (.done)))) (.stop)))))))) (.kb [1, 3, 6] (.seq (.seq (.reg [⟨some 41, none, .fa 0 (.t 1)⟩,
  ⟨some 42, none, .ld (.t 41)⟩,
  ⟨some 43, none, .bin .eql (.t 42) (.c (.int .i64 1))⟩]) (.kb [1, 3, 6, 43] (.cond (.t 43) (.seq (.drw (.q ⟨some 44, none, .fa 2 (.t 1)⟩ (.q ⟨some 45, none, .ld (.t 44)⟩ (.q ⟨some 46, none, .bin .add (.c (.str [102, 110, 32])) (.t 45)⟩ (.q ⟨some 47, none, .bin .add (.t 46) (.c (.str [40]))⟩ (.q ⟨some 48, none, .mv (.t 3)⟩ (.q ⟨some 52, none, .fa 6 (.t 1)⟩ (.q ⟨some 53, none, .lda 5 (.t 52)⟩ (.alt ⟨some 49, none, .call 20 [.t 48, .c (.str [44, 32])]⟩ [⟨some 53, none, .lda 5 (.t 52)⟩, ⟨some 45, none, .ld (.t 44)⟩] (.q ⟨some 50, none, .bin .add (.t 47) (.t 49)⟩ (.q ⟨some 51, none, .bin .add (.t 50) (.c (.str [41, 32, 45, 62, 32]))⟩ (.alt ⟨some 54, none, .call 19 [.t 53]⟩ [⟨some 45, none, .ld (.t 44)⟩] (.q ⟨some 55, none, .bin .add (.t 51) (.t 54)⟩ (.q ⟨some 6, none, .mv (.t 55)⟩ (.done))) (.stop)))) (.stop)))))))))) (.kb [1, 6] (.seq (.reg [⟨some 56, none, .fa 1 (.t 1)⟩,
  ⟨some 57, none, .ld (.t 56)⟩]) (.kb [1, 6, 57] (.cond (.t 57) (.reg [⟨some 58, none, .mv (.t 6)⟩,
  ⟨some 59, none, .bin .add (.c (.str [112, 117, 98, 32])) (.t 58)⟩,
  ⟨some 6, none, .mv (.t 59)⟩]) .skip))))) .skip))) (.kb [1, 6] (.seq (.reg [⟨some 60, none, .mv (.t 6)⟩,
  ⟨some 61, none, .bin .add (.t 60) (.c (.str [32, 61, 32]))⟩,
  ⟨some 62, none, .fa 11 (.t 1)⟩,
  ⟨some 63, none, .lda 7 (.t 62)⟩,
  ⟨some 64, none, .call 12 [.t 63]⟩,
  ⟨some 65, none, .bin .add (.t 61) (.t 64)⟩,
  ⟨some 66, none, .bin .add (.t 65) (.c (.str [59]))⟩,
  ⟨some 2, none, .mv (.t 66)⟩]) .ret))))))))))
def f10 : FD := ⟨67, [.t 2], d10, .all⟩
theorem ok10 : compF planOf Tryd.prog 10 = some ⟨67, [.t 2], d10.er⟩ := by kernel_rfl
def b11_0 : D := .seq (.reg [⟨some 39, none, .bin .lss (.t 38) (.t 37)⟩]) (.kb [2, 3, 37, 38, 39] (.seq (.cond (.t 39) .skip (.exit 0)) (.kb [2, 3, 37, 38] (.seq (.block 1 (.seq (.reg [⟨some 40, none, .mv (.t 38)⟩,
  ⟨some 5, none, .mv (.t 40)⟩]) (.kb [2, 3, 5, 37, 38] (.seq (.drw (.q ⟨some 41, none, .fa 4 (.t 2)⟩ (.q ⟨some 42, none, .ld (.t 41)⟩ (.q ⟨some 43, none, .mv (.t 5)⟩ (.q ⟨some 44, none, .ia 7 (.t 42) (.t 43)⟩ (.q ⟨some 45, none, .lda 7 (.t 44)⟩ (.q ⟨some 46, none, .fa 4 (.t 3)⟩ (.q ⟨some 47, none, .ld (.t 46)⟩ (.q ⟨some 48, none, .mv (.t 5)⟩ (.q ⟨some 49, none, .ia 7 (.t 47) (.t 48)⟩ (.q ⟨some 50, none, .lda 7 (.t 49)⟩ (.alt ⟨some 51, none, .call 11 [.t 45, .t 50]⟩ [] (.q ⟨some 52, none, .un .not (.t 51)⟩ (.done)) (.stop))))))))))))) (.kb [2, 3, 37, 38, 52] (.cond (.t 52) (.seq (.reg [⟨some 4, none, .mv (.c (.bool false))⟩]) .ret) .skip)))))) (.kb [2, 3, 37, 38] (.reg [⟨some 53, none, .bin .add (.t 38) (.c (.int .i64 1))⟩,
  ⟨some 38, none, .mv (.t 53)⟩]))))))
def d11 : D := .seq (.reg [⟨some 2, none, .box (.t 0)⟩,
  ⟨some 3, none, .box (.t 1)⟩,
  ⟨some 4, none, .mv (.c (.bool false))⟩]) (.kb [2, 3] (.seq (.seq (.reg [⟨some 6, none, .fa 0 (.t 2)⟩,
  ⟨some 7, none, .ld (.t 6)⟩,
  ⟨some 8, none, .fa 0 (.t 3)⟩,
  ⟨some 9, none, .ld (.t 8)⟩,
  ⟨some 10, none, .bin .neq (.t 7) (.t 9)⟩,
  ⟨some 11, none, .mv (.t 10)⟩,
  ⟨some 12, some (11, false), .fa 1 (.t 2)⟩,
  ⟨some 13, some (11, false), .ld (.t 12)⟩,
  ⟨some 14, some (11, false), .fa 1 (.t 3)⟩,
  ⟨some 15, some (11, false), .ld (.t 14)⟩,
  ⟨some 16, some (11, false), .bin .neq (.t 13) (.t 15)⟩,
  ⟨some 17, none, .pick (.t 11) (.c (.bool true)) (.t 16)⟩,
  ⟨some 18, none, .mv (.t 17)⟩,
  ⟨some 19, some (18, false), .fa 2 (.t 2)⟩,
  ⟨some 20, some (18, false), .lda 2 (.t 19)⟩,
  ⟨some 21, some (18, false), .fa 2 (.t 3)⟩,
  ⟨some 22, some (18, false), .lda 2 (.t 21)⟩,
  ⟨some 23, some (18, false), .call 21 [.t 20, .t 22]⟩,
  ⟨some 24, some (18, false), .bin .neq (.t 23) (.c (.int .i64 0))⟩,
  ⟨some 25, none, .pick (.t 18) (.c (.bool true)) (.t 24)⟩,
  ⟨some 26, none, .mv (.t 25)⟩,
  ⟨some 27, some (26, false), .fa 4 (.t 2)⟩,
  ⟨some 28, some (26, false), .ld (.t 27)⟩,
  ⟨some 29, some (26, false), .llen (.t 28)⟩,
  ⟨some 30, some (26, false), .fa 4 (.t 3)⟩,
  ⟨some 31, some (26, false), .ld (.t 30)⟩,
  ⟨some 32, some (26, false), .llen (.t 31)⟩,
  ⟨some 33, some (26, false), .bin .neq (.t 29) (.t 32)⟩,
  ⟨some 34, none, .pick (.t 26) (.c (.bool true)) (.t 33)⟩]) (.kb [2, 3, 34] (.cond (.t 34) (.seq (.reg [⟨some 4, none, .mv (.c (.bool false))⟩]) .ret) .skip))) (.kb [2, 3] (.seq (.seq (.reg [⟨some 35, none, .fa 4 (.t 2)⟩,
  ⟨some 36, none, .ld (.t 35)⟩,
  ⟨some 37, none, .llen (.t 36)⟩,
  ⟨some 38, none, .mv (.c (.int .i64 0))⟩]) (.kb [2, 3, 37, 38] (.block 0 (.loop [2, 3, 37, 38] b11_0)))) (.kb [] (.seq (.reg [⟨some 4, none, .mv (.c (.bool true))⟩]) .ret))))))
def f11 : FD := ⟨54, [.t 4], d11, .all⟩
theorem ok11 : compF planOf Tryd.prog 11 = some ⟨54, [.t 4], d11.er⟩ := by kernel_rfl
def d12 : D := .seq (.reg [⟨some 1, none, .box (.t 0)⟩,
  ⟨some 2, none, .mv (.c (.str []))⟩]) (.kb [1] (.seq (.reg [⟨some 3, none, .lda 7 (.t 1)⟩,
  ⟨some 4, none, .call 22 [.t 3, .c (.int .i64 0)]⟩,
  ⟨some 2, none, .mv (.t 4)⟩]) .ret))
def f12 : FD := ⟨5, [.t 2], d12, .all⟩
theorem ok12 : compF planOf Tryd.prog 12 = some ⟨5, [.t 2], d12.er⟩ := by kernel_rfl
def b15_0 : D := .seq (.reg [⟨some 18, none, .bin .lss (.t 17) (.t 16)⟩]) (.kb [2, 3, 15, 16, 17, 18] (.seq (.cond (.t 18) .skip (.exit 0)) (.kb [2, 3, 15, 16, 17] (.seq (.block 1 (.seq (.reg [⟨some 19, none, .ia 7 (.t 15) (.t 17)⟩,
  ⟨some 20, none, .lda 7 (.t 19)⟩,
  ⟨some 5, none, .new [.int .i64 0, .str [], .bool false, .nils, .nils, .int .i64 0, .int .i64 0]⟩,
  ⟨none, none, .st 7 (.t 5) (.t 20)⟩]) (.kb [2, 3, 5, 15, 16, 17] (.drw (.q ⟨some 21, none, .fa 4 (.t 3)⟩ (.q ⟨some 22, none, .ld (.t 21)⟩ (.q ⟨some 23, none, .lda 7 (.t 5)⟩ (.alt ⟨some 24, none, .call 15 [.t 23]⟩ [⟨some 22, none, .ld (.t 21)⟩] (.alt ⟨some 25, none, .bslice [.int .i64 0, .str [], .bool false, .nils, .nils, .int .i64 0, .int .i64 0] 1 [(0, .t 24)]⟩ [⟨some 22, none, .ld (.t 21)⟩] (.alt ⟨some 26, none, .app 96 7 (.t 22) (.t 25)⟩ [] (.q ⟨some 27, none, .fa 4 (.t 3)⟩ (.alt ⟨none, none, .st 1 (.t 27) (.t 26)⟩ [] (.done) (.stop))) (.stop)) (.stop)) (.stop))))))))) (.kb [2, 3, 15, 16, 17] (.reg [⟨some 28, none, .bin .add (.t 17) (.c (.int .i64 1))⟩,
  ⟨some 17, none, .mv (.t 28)⟩]))))))
def d15 : D := .seq (.reg [⟨some 1, none, .box (.t 0)⟩,
  ⟨some 2, none, .new [.int .i64 0, .str [], .bool false, .nils, .nils, .int .i64 0, .int .i64 0]⟩]) (.kb [1, 2] (.seq (.drw (.q ⟨some 6, none, .fa 0 (.t 1)⟩ (.q ⟨some 7, none, .ld (.t 6)⟩ (.q ⟨some 8, none, .fa 1 (.t 1)⟩ (.q ⟨some 9, none, .ld (.t 8)⟩ (.q ⟨some 10, none, .fa 2 (.t 1)⟩ (.q ⟨some 11, none, .lda 2 (.t 10)⟩ (.alt ⟨some 12, none, .call 24 [.t 11]⟩ [⟨some 9, none, .ld (.t 8)⟩, ⟨some 7, none, .ld (.t 6)⟩] (.q ⟨some 13, none, .build [.int .i64 0, .str [], .bool false, .nils, .nils, .int .i64 0, .int .i64 0] [(0, 1, .t 7), (1, 1, .t 9), (2, 2, .t 12)]⟩ (.alt ⟨some 3, none, .new [.int .i64 0, .str [], .bool false, .nils, .nils, .int .i64 0, .int .i64 0]⟩ [⟨some 11, none, .lda 2 (.t 10)⟩, ⟨some 9, none, .ld (.t 8)⟩, ⟨some 7, none, .ld (.t 6)⟩] (.alt ⟨none, none, .st 7 (.t 3) (.t 13)⟩ [] (.done) (.stop)) (.stop))) (.alt ⟨some 3, none, .new [.int .i64 0, .str [], .bool false, .nils, .nils, .int .i64 0, .int .i64 0]⟩ [⟨some 11, none, .lda 2 (.t 10)⟩, ⟨some 9, none, .ld (.t 8)⟩, ⟨some 7, none, .ld (.t 6)⟩] (.alt ⟨some 12, none, .call 24 [.t 11]⟩ [⟨some 9, none, .ld (.t 8)⟩, ⟨some 7, none, .ld (.t 6)⟩] (.q ⟨some 13, none, .build [.int .i64 0, .str [], .bool false, .nils, .nils, .int .i64 0, .int .i64 0] [(0, 1, .t 7), (1, 1, .t 9), (2, 2, .t 12)]⟩ (.alt ⟨none, none, .st 7 (.t 3) (.t 13)⟩ [] (.done) (.stop))) (.stop)) (.stop)))))))))) (.kb [1, 2, 3] (.seq (.seq (.reg [⟨some 14, none, .fa 4 (.t 1)⟩,
  ⟨some 15, none, .ld (.t 14)⟩,
  ⟨some 16, none, .llen (.t 15)⟩,
  ⟨some 17, none, .mv (.c (.int .i64 0))⟩]) (.kb [2, 3, 15, 16, 17] (.block 0 (.loop [2, 3, 15, 16, 17] b15_0)))) (.kb [2, 3] (.seq (.reg [⟨some 29, none, .lda 7 (.t 3)⟩,
  ⟨none, none, .st 7 (.t 2) (.t 29)⟩]) .ret))))))
def f15 : FD := ⟨30, [.c 2 (some 7)], d15, .cut⟩
theorem ok15 : compF planOf Tryd.prog 15 = some ⟨30, [.c 2 (some 7)], d15.er⟩ := by kernel_rfl
def b16_0 : D := .seq (.seq (.reg [⟨some 11, none, .mv (.t 6)⟩,
  ⟨some 12, none, .mv (.t 0)⟩,
  ⟨some 13, none, .llen (.t 12)⟩,
  ⟨some 14, none, .bin .lss (.t 11) (.t 13)⟩]) (.kb [0, 5, 6, 14] (.cond (.t 14) .skip (.exit 0)))) (.kb [0, 5, 6] (.seq (.block 1 (.seq (.reg [⟨some 19, none, .mv (.t 0)⟩,
  ⟨some 20, none, .mv (.t 6)⟩,
  ⟨some 21, none, .call 26 [.t 19, .t 20]⟩,
  ⟨some 18, none, .mv (.t 21)⟩,
  ⟨some 22, none, .ext (.t 18) 0⟩,
  ⟨some 23, none, .ext (.t 18) 1⟩,
  ⟨some 7, none, .new [.int .i64 0, .str [], .int .i64 0, .int .i64 0]⟩,
  ⟨none, none, .st 4 (.t 7) (.t 22)⟩,
  ⟨some 8, none, .mv (.t 23)⟩]) (.kb [0, 5, 6, 7, 8] (.seq (.seq (.reg [⟨some 24, none, .mv (.t 8)⟩,
  ⟨some 25, none, .bin .neq (.t 24) (.c (.int .i64 0))⟩]) (.kb [0, 5, 6, 7, 8, 25] (.cond (.t 25) (.seq (.reg [⟨some 26, none, .mv (.t 6)⟩,
  ⟨some 27, none, .mv (.t 8)⟩,
  ⟨some 2, none, .mv (.c (.nils))⟩,
  ⟨some 3, none, .mv (.t 26)⟩,
  ⟨some 4, none, .mv (.t 27)⟩]) .ret) .skip))) (.kb [0, 5, 7] (.seq (.reg [⟨some 28, none, .mv (.t 5)⟩,
  ⟨some 29, none, .lda 4 (.t 7)⟩,
  ⟨some 30, none, .bslice [.int .i64 0, .str [], .int .i64 0, .int .i64 0] 1 [(0, .t 29)]⟩,
  ⟨some 31, none, .app 40 4 (.t 28) (.t 30)⟩,
  ⟨some 5, none, .mv (.t 31)⟩]) (.kb [0, 5, 7] (.reg [⟨some 32, none, .fa 2 (.t 7)⟩,
  ⟨some 33, none, .fa 1 (.t 32)⟩,
  ⟨some 34, none, .ld (.t 33)⟩,
  ⟨some 6, none, .mv (.t 34)⟩])))))))) (.kb [0, 5, 6] (.reg [⟨some 15, none, .mv (.t 0)⟩,
  ⟨some 16, none, .mv (.t 6)⟩,
  ⟨some 17, none, .call 25 [.t 15, .t 16]⟩,
  ⟨some 6, none, .mv (.t 17)⟩]))))
def d16 : D := .seq (.reg [⟨some 2, none, .mv (.c (.nils))⟩,
  ⟨some 3, none, .mv (.c (.int .i64 0))⟩,
  ⟨some 4, none, .mv (.c (.int .i64 0))⟩]) (.kb [0] (.seq (.reg [⟨some 5, none, .mv (.c (.nils))⟩]) (.kb [0, 5] (.seq (.seq (.reg [⟨some 9, none, .mv (.t 0)⟩,
  ⟨some 10, none, .call 25 [.t 9, .c (.int .i64 0)]⟩,
  ⟨some 6, none, .mv (.t 10)⟩]) (.kb [0, 5, 6] (.block 0 (.loop [0, 5, 6] b16_0)))) (.kb [0, 5] (.seq (.reg [⟨some 35, none, .mv (.t 5)⟩,
  ⟨some 36, none, .mv (.t 0)⟩,
  ⟨some 37, none, .llen (.t 36)⟩,
  ⟨some 38, none, .mv (.t 0)⟩,
  ⟨some 39, none, .llen (.t 38)⟩,
  ⟨some 40, none, .build [.int .i64 0, .int .i64 0] [(0, 1, .t 37), (1, 1, .t 39)]⟩,
  ⟨some 41, none, .build [.int .i64 0, .str [], .int .i64 0, .int .i64 0] [(0, 1, .c (.int .i64 0)), (2, 2, .t 40)]⟩,
  ⟨some 42, none, .bslice [.int .i64 0, .str [], .int .i64 0, .int .i64 0] 1 [(0, .t 41)]⟩,
  ⟨some 43, none, .app 40 4 (.t 35) (.t 42)⟩,
  ⟨some 2, none, .mv (.t 43)⟩,
  ⟨some 3, none, .mv (.c (.int .i64 0))⟩,
  ⟨some 4, none, .mv (.c (.int .i64 0))⟩]) .ret))))))
def f16 : FD := ⟨44, [.t 2, .t 3, .t 4], d16, .all⟩
theorem ok16 : compF planOf Tryd.prog 16 = some ⟨44, [.t 2, .t 3, .t 4], d16.er⟩ := by kernel_rfl
def d17 : D := .seq (.reg [⟨some 6, none, .recover⟩,
  ⟨some 7, none, .tas 62 (.agg [.int .i64 0, .int .i64 0, .int .i64 0]) true (.t 6)⟩,
  ⟨some 5, none, .mv (.t 7)⟩,
  ⟨some 8, none, .ext (.t 5) 0⟩,
  ⟨some 9, none, .ext (.t 5) 1⟩,
  ⟨some 3, none, .new [.int .i64 0, .int .i64 0, .int .i64 0]⟩,
  ⟨none, none, .st 3 (.t 3) (.t 8)⟩,
  ⟨some 4, none, .mv (.t 9)⟩]) (.kb [0, 1, 2, 3, 4] (.seq (.reg [⟨some 10, none, .mv (.t 4)⟩]) (.kb [0, 1, 2, 3, 10] (.cond (.t 10) (.drw (.q ⟨some 11, none, .build [.int .i64 0, .bool false, .str [], .int .i64 0, .int .i64 0, .nils, .int .i64 0, .int .i64 0, .nils, .int .i64 0, .int .i64 0, .int .i64 0, .str [], .bool false, .nils, .nils, .int .i64 0, .int .i64 0] []⟩ (.q ⟨some 12, none, .fa 0 (.t 3)⟩ (.q ⟨some 13, none, .lda 2 (.t 12)⟩ (.q ⟨some 14, none, .fa 2 (.t 3)⟩ (.q ⟨some 15, none, .ld (.t 14)⟩ (.alt ⟨none, none, .st 18 (.t 0) (.t 11)⟩ [⟨some 15, none, .ld (.t 14)⟩, ⟨some 13, none, .lda 2 (.t 12)⟩] (.alt ⟨none, none, .st 2 (.t 1) (.t 13)⟩ [⟨some 15, none, .ld (.t 14)⟩] (.alt ⟨none, none, .st 1 (.t 2) (.t 15)⟩ [] (.done) (.stop)) (.stop)) (.stop)))))))) .skip))))
def f17 : FD := ⟨16, [], d17, .raw⟩
theorem ok17 : compF planOf Tryd.prog 17 = some ⟨16, [], d17.er⟩ := by kernel_rfl
def d18 : D := .seq (.reg [⟨some 2, none, .new [.int .i64 0, .bool false, .str [], .int .i64 0, .int .i64 0, .nils, .int .i64 0, .int .i64 0, .nils, .int .i64 0, .int .i64 0, .int .i64 0, .str [], .bool false, .nils, .nils, .int .i64 0, .int .i64 0]⟩]) (.kb [0, 2] (.seq (.reg [⟨some 3, none, .new [.int .i64 0, .bool false, .str [], .int .i64 0, .int .i64 0, .nils, .int .i64 0, .int .i64 0, .nils, .int .i64 0, .int .i64 0, .int .i64 0, .str [], .bool false, .nils, .nils, .int .i64 0, .int .i64 0]⟩]) (.kb [0, 2, 3] (.seq (.seq (.reg [⟨some 4, none, .mv (.t 0)⟩,
  ⟨some 5, none, .call 27 [.t 4, .c (.str [113, 117, 97, 108])]⟩]) (.kb [0, 2, 3, 5] (.cond (.t 5) (.seq (.reg [⟨some 6, none, .fa 0 (.t 3)⟩,
  ⟨none, none, .st 1 (.t 6) (.c (.int .i64 2))⟩]) (.kb [0, 2, 3] (.reg [⟨some 7, none, .mv (.t 0)⟩,
  ⟨some 8, none, .call 28 [.t 7, .t 3]⟩]))) (.seq (.reg [⟨some 9, none, .mv (.t 0)⟩,
  ⟨some 10, none, .call 27 [.t 9, .c (.str [112, 117, 98])]⟩,
  ⟨some 11, none, .fa 1 (.t 3)⟩,
  ⟨none, none, .st 1 (.t 11) (.t 10)⟩]) (.kb [0, 2, 3] (.seq (.reg [⟨some 12, none, .mv (.t 0)⟩,
  ⟨some 13, none, .call 29 [.t 12, .c (.str [102, 110])]⟩]) (.kb [0, 2, 3] (.seq (.reg [⟨some 14, none, .fa 0 (.t 3)⟩,
  ⟨none, none, .st 1 (.t 14) (.c (.int .i64 1))⟩]) (.kb [0, 2, 3] (.reg [⟨some 15, none, .mv (.t 0)⟩,
  ⟨some 16, none, .call 30 [.t 15, .t 3]⟩])))))))))) (.kb [0, 2, 3] (.seq (.reg [⟨some 17, none, .mv (.t 0)⟩,
  ⟨some 18, none, .call 29 [.t 17, .c (.str [61])]⟩]) (.kb [0, 2, 3] (.seq (.reg [⟨some 19, none, .mv (.t 0)⟩,
  ⟨some 20, none, .call 31 [.t 19]⟩,
  ⟨some 21, none, .fa 11 (.t 3)⟩,
  ⟨none, none, .st 7 (.t 21) (.t 20)⟩]) (.kb [0, 2, 3] (.seq (.reg [⟨some 22, none, .mv (.t 0)⟩,
  ⟨some 23, none, .call 29 [.t 22, .c (.str [59])]⟩]) (.kb [0, 2, 3] (.seq (.seq (.reg [⟨some 24, none, .mv (.t 0)⟩,
  ⟨some 25, none, .call 32 [.t 24]⟩,
  ⟨some 26, none, .fld none 0 (.t 25)⟩,
  ⟨some 27, none, .bin .neq (.t 26) (.c (.int .i64 0))⟩]) (.kb [0, 2, 3, 27] (.cond (.t 27) (.reg [⟨some 28, none, .mv (.t 0)⟩,
  ⟨some 29, none, .call 33 [.t 28, .c (.int .i64 12)]⟩]) .skip))) (.kb [2, 3] (.seq (.reg [⟨some 30, none, .lda 18 (.t 3)⟩,
  ⟨none, none, .st 18 (.t 2) (.t 30)⟩]) .ret))))))))))))))
def f18 : FD := ⟨31, [.c 2 (some 18)], d18, .cut⟩
theorem ok18 : compF planOf Tryd.prog 18 = some ⟨31, [.c 2 (some 18)], d18.er⟩ := by kernel_rfl
def d19 : D := .seq (.reg [⟨some 1, none, .box (.t 0)⟩,
  ⟨some 2, none, .mv (.c (.str []))⟩]) (.kb [1] (.seq (.reg [⟨some 3, none, .mv (.c (.str []))⟩]) (.kb [1, 3] (.seq (.seq (.reg [⟨some 4, none, .fa 0 (.t 1)⟩,
  ⟨some 5, none, .ld (.t 4)⟩]) (.kb [1, 3, 5] (.block 0 (.seq (.reg [⟨some 7, none, .bin .eql (.t 5) (.c (.int .i64 1))⟩,
  ⟨some 6, none, .mv (.t 7)⟩]) (.kb [1, 3, 5, 6] (.cond (.t 6) (.reg [⟨some 3, none, .mv (.c (.str [105, 110, 116]))⟩]) (.seq (.reg [⟨some 9, none, .bin .eql (.t 5) (.c (.int .i64 2))⟩,
  ⟨some 8, none, .mv (.t 9)⟩]) (.kb [1, 3, 5, 8] (.cond (.t 8) (.reg [⟨some 3, none, .mv (.c (.str [98, 111, 111, 108]))⟩]) (.seq (.reg [⟨some 11, none, .bin .eql (.t 5) (.c (.int .i64 3))⟩,
  ⟨some 10, none, .mv (.t 11)⟩]) (.kb [1, 3, 10] (.cond (.t 10) (.reg [⟨some 12, none, .fa 1 (.t 1)⟩,
  ⟨some 13, none, .ld (.t 12)⟩,
  ⟨some 14, none, .call 34 [.t 13]⟩,
  ⟨some 15, none, .bin .add (.c (.str [97, 114, 114, 32])) (.t 14)⟩,
  ⟨some 3, none, .mv (.t 15)⟩]) .skip)))))))))))) (.kb [1, 3] (.seq (.seq (.reg [⟨some 16, none, .fa 2 (.t 1)⟩,
  ⟨some 17, none, .ld (.t 16)⟩,
  ⟨some 18, none, .llen (.t 17)⟩,
  ⟨some 19, none, .bin .gtr (.t 18) (.c (.int .i64 0))⟩]) (.kb [1, 3, 19] (.cond (.t 19) (.reg [⟨some 20, none, .mv (.t 3)⟩,
  ⟨some 21, none, .fa 2 (.t 1)⟩,
  ⟨some 22, none, .ld (.t 21)⟩,
  ⟨some 23, none, .ia 7 (.t 22) (.c (.int .i64 0))⟩,
  ⟨some 24, none, .lda 7 (.t 23)⟩,
  ⟨some 25, none, .call 12 [.t 24]⟩,
  ⟨some 26, none, .bin .add (.c (.str [123])) (.t 25)⟩,
  ⟨some 27, none, .bin .add (.t 26) (.c (.str [125]))⟩,
  ⟨some 28, none, .bin .add (.t 20) (.t 27)⟩,
  ⟨some 3, none, .mv (.t 28)⟩]) .skip))) (.kb [3] (.seq (.reg [⟨some 29, none, .mv (.t 3)⟩,
  ⟨some 2, none, .mv (.t 29)⟩]) .ret))))))))
def f19 : FD := ⟨30, [.t 2], d19, .all⟩
theorem ok19 : compF planOf Tryd.prog 19 = some ⟨30, [.t 2], d19.er⟩ := by kernel_rfl
def d21 : D := .seq (.reg [⟨some 2, none, .box (.t 0)⟩,
  ⟨some 3, none, .box (.t 1)⟩,
  ⟨some 4, none, .mv (.c (.int .i64 0))⟩]) (.kb [2, 3] (.seq (.drw (.q ⟨some 7, none, .lda 2 (.t 2)⟩ (.q ⟨some 9, none, .lda 2 (.t 3)⟩ (.alt ⟨some 8, none, .call 38 [.t 7]⟩ [⟨some 9, none, .lda 2 (.t 3)⟩] (.alt ⟨some 10, none, .call 38 [.t 9]⟩ [] (.q ⟨some 5, none, .mv (.t 8)⟩ (.q ⟨some 6, none, .mv (.t 10)⟩ (.done))) (.stop)) (.stop))))) (.kb [2, 3, 5, 6] (.seq (.block 0 (.seq (.reg [⟨some 12, none, .mv (.t 5)⟩,
  ⟨some 13, none, .mv (.t 6)⟩,
  ⟨some 14, none, .bin .lss (.t 12) (.t 13)⟩,
  ⟨some 11, none, .mv (.t 14)⟩]) (.kb [2, 3, 5, 6, 11] (.cond (.t 11) (.seq (.reg [⟨some 4, none, .mv (.c (.int .i64 (-1)))⟩]) .ret) (.seq (.reg [⟨some 16, none, .mv (.t 5)⟩,
  ⟨some 17, none, .mv (.t 6)⟩,
  ⟨some 18, none, .bin .gtr (.t 16) (.t 17)⟩,
  ⟨some 15, none, .mv (.t 18)⟩]) (.kb [2, 3, 5, 15] (.cond (.t 15) (.seq (.reg [⟨some 4, none, .mv (.c (.int .i64 1))⟩]) .ret) .skip))))))) (.kb [2, 3, 5] (.seq (.reg [⟨some 19, none, .mv (.t 5)⟩,
  ⟨some 20, none, .fa 1 (.t 2)⟩,
  ⟨some 21, none, .ld (.t 20)⟩,
  ⟨some 22, none, .fa 1 (.t 3)⟩,
  ⟨some 23, none, .ld (.t 22)⟩,
  ⟨some 24, none, .call 39 [.t 21, .t 23]⟩,
  ⟨some 25, none, .bin .mul (.t 19) (.t 24)⟩,
  ⟨some 4, none, .mv (.t 25)⟩]) .ret))))))
def f21 : FD := ⟨26, [.t 4], d21, .all⟩
theorem ok21 : compF planOf Tryd.prog 21 = some ⟨26, [.t 4], d21.er⟩ := by kernel_rfl
def d22 : D := .seq (.reg [⟨some 2, none, .box (.t 0)⟩,
  ⟨some 4, none, .mv (.c (.str []))⟩]) (.kb [1, 2] (.seq (.reg [⟨some 6, none, .lda 7 (.t 2)⟩,
  ⟨some 7, none, .call 40 [.t 6]⟩,
  ⟨some 5, none, .mv (.t 7)⟩]) (.kb [1, 2, 5] (.seq (.seq (.reg [⟨some 8, none, .fa 0 (.t 2)⟩,
  ⟨some 9, none, .ld (.t 8)⟩,
  ⟨some 10, none, .call 41 [.t 9]⟩,
  ⟨some 11, none, .mv (.t 1)⟩,
  ⟨some 12, none, .bin .lss (.t 10) (.t 11)⟩]) (.kb [5, 12] (.cond (.t 12) (.seq (.reg [⟨some 13, none, .mv (.t 5)⟩,
  ⟨some 14, none, .bin .add (.c (.str [40])) (.t 13)⟩,
  ⟨some 15, none, .bin .add (.t 14) (.c (.str [41]))⟩,
  ⟨some 4, none, .mv (.t 15)⟩]) .ret) .skip))) (.kb [5] (.seq (.reg [⟨some 16, none, .mv (.t 5)⟩,
  ⟨some 4, none, .mv (.t 16)⟩]) .ret))))))
def f22 : FD := ⟨17, [.t 4], d22, .all⟩
theorem ok22 : compF planOf Tryd.prog 22 = some ⟨17, [.t 4], d22.er⟩ := by kernel_rfl
def d23 : D := .seq (.reg [⟨some 1, none, .box (.t 0)⟩,
  ⟨some 2, none, .mv (.c (.str []))⟩]) (.kb [1] (.seq (.seq (.reg [⟨some 3, none, .lda 2 (.t 1)⟩,
  ⟨some 4, none, .call 38 [.t 3]⟩,
  ⟨some 5, none, .bin .lss (.t 4) (.c (.int .i64 0))⟩]) (.kb [1, 5] (.cond (.t 5) (.seq (.reg [⟨some 6, none, .fa 1 (.t 1)⟩,
  ⟨some 7, none, .ld (.t 6)⟩,
  ⟨some 8, none, .call 42 [.t 7]⟩,
  ⟨some 9, none, .bin .add (.c (.str [45])) (.t 8)⟩,
  ⟨some 2, none, .mv (.t 9)⟩]) .ret) .skip))) (.kb [1] (.seq (.reg [⟨some 10, none, .fa 1 (.t 1)⟩,
  ⟨some 11, none, .ld (.t 10)⟩,
  ⟨some 12, none, .call 42 [.t 11]⟩,
  ⟨some 2, none, .mv (.t 12)⟩]) .ret))))
def f23 : FD := ⟨13, [.t 2], d23, .all⟩
theorem ok23 : compF planOf Tryd.prog 23 = some ⟨13, [.t 2], d23.er⟩ := by kernel_rfl
def d24 : D := .seq (.reg [⟨some 1, none, .box (.t 0)⟩,
  ⟨some 2, none, .new [.bool false, .nils]⟩]) (.kb [1, 2] (.seq (.reg [⟨some 3, none, .fa 0 (.t 1)⟩,
  ⟨some 4, none, .ld (.t 3)⟩,
  ⟨some 5, none, .fa 1 (.t 1)⟩,
  ⟨some 6, none, .ld (.t 5)⟩,
  ⟨some 7, none, .call 43 [.t 4, .t 6]⟩,
  ⟨none, none, .st 2 (.t 2) (.t 7)⟩]) .ret))
def f24 : FD := ⟨8, [.c 2 (some 2)], d24, .all⟩
theorem ok24 : compF planOf Tryd.prog 24 = some ⟨8, [.c 2 (some 2)], d24.er⟩ := by kernel_rfl
def b25_0 : D := .seq (.seq (.reg [⟨some 43, none, .mv (.t 1)⟩,
  ⟨some 44, none, .mv (.t 0)⟩,
  ⟨some 45, none, .llen (.t 44)⟩,
  ⟨some 46, none, .bin .lss (.t 43) (.t 45)⟩,
  ⟨some 47, none, .mv (.t 46)⟩,
  ⟨some 48, some (47, true), .mv (.t 0)⟩,
  ⟨some 49, some (47, true), .mv (.t 1)⟩,
  ⟨some 50, some (47, true), .ia 1 (.t 48) (.t 49)⟩,
  ⟨some 51, some (47, true), .ld (.t 50)⟩,
  ⟨some 52, some (47, true), .bin .neq (.t 51) (.c (.int .u8 10))⟩,
  ⟨some 53, none, .pick (.t 47) (.t 52) (.c (.bool false))⟩]) (.kb [0, 1, 53] (.cond (.t 53) .skip (.exit 3)))) (.kb [0, 1] (.block 4 (.reg [⟨some 54, none, .mv (.t 1)⟩,
  ⟨some 55, none, .bin .add (.t 54) (.c (.int .i64 1))⟩,
  ⟨some 1, none, .mv (.t 55)⟩])))
def b25_1 : D := .seq (.seq (.reg [⟨some 5, none, .mv (.t 1)⟩,
  ⟨some 6, none, .mv (.t 0)⟩,
  ⟨some 7, none, .llen (.t 6)⟩,
  ⟨some 8, none, .bin .lss (.t 5) (.t 7)⟩]) (.kb [0, 1, 8] (.cond (.t 8) .skip (.exit 0)))) (.kb [0, 1] (.block 1 (.block 2 (.seq (.reg [⟨some 11, none, .mv (.t 0)⟩,
  ⟨some 12, none, .mv (.t 1)⟩,
  ⟨some 13, none, .ia 1 (.t 11) (.t 12)⟩,
  ⟨some 14, none, .ld (.t 13)⟩,
  ⟨some 15, none, .bin .eql (.t 14) (.c (.int .u8 32))⟩,
  ⟨some 16, none, .mv (.t 15)⟩,
  ⟨some 17, some (16, false), .mv (.t 0)⟩,
  ⟨some 18, some (16, false), .mv (.t 1)⟩,
  ⟨some 19, some (16, false), .ia 1 (.t 17) (.t 18)⟩,
  ⟨some 20, some (16, false), .ld (.t 19)⟩,
  ⟨some 21, some (16, false), .bin .eql (.t 20) (.c (.int .u8 9))⟩,
  ⟨some 22, none, .pick (.t 16) (.c (.bool true)) (.t 21)⟩,
  ⟨some 23, none, .mv (.t 22)⟩,
  ⟨some 24, some (23, false), .mv (.t 0)⟩,
  ⟨some 25, some (23, false), .mv (.t 1)⟩,
  ⟨some 26, some (23, false), .ia 1 (.t 24) (.t 25)⟩,
  ⟨some 27, some (23, false), .ld (.t 26)⟩,
  ⟨some 28, some (23, false), .bin .eql (.t 27) (.c (.int .u8 10))⟩,
  ⟨some 29, none, .pick (.t 23) (.c (.bool true)) (.t 28)⟩,
  ⟨some 30, none, .mv (.t 29)⟩,
  ⟨some 31, some (30, false), .mv (.t 0)⟩,
  ⟨some 32, some (30, false), .mv (.t 1)⟩,
  ⟨some 33, some (30, false), .ia 1 (.t 31) (.t 32)⟩,
  ⟨some 34, some (30, false), .ld (.t 33)⟩,
  ⟨some 35, some (30, false), .bin .eql (.t 34) (.c (.int .u8 13))⟩,
  ⟨some 36, none, .pick (.t 30) (.c (.bool true)) (.t 35)⟩,
  ⟨some 10, none, .mv (.t 36)⟩]) (.kb [0, 1, 10] (.cond (.t 10) (.reg [⟨some 37, none, .mv (.t 1)⟩,
  ⟨some 38, none, .bin .add (.t 37) (.c (.int .i64 1))⟩,
  ⟨some 1, none, .mv (.t 38)⟩]) (.seq (.reg [⟨some 40, none, .mv (.t 0)⟩,
  ⟨some 41, none, .mv (.t 1)⟩,
  ⟨some 42, none, .call 44 [.t 40, .t 41]⟩,
  ⟨some 39, none, .mv (.t 42)⟩]) (.kb [0, 1, 39] (.cond (.t 39) (.block 3 (.loop [0, 1] b25_0)) (.seq (.reg [⟨some 9, none, .mv (.t 1)⟩,
  ⟨some 4, none, .mv (.t 9)⟩]) .ret))))))))))
def d25 : D := .seq (.reg [⟨some 4, none, .mv (.c (.int .i64 0))⟩]) (.kb [0, 1] (.seq (.block 0 (.loop [0, 1] b25_1)) (.kb [1] (.seq (.reg [⟨some 56, none, .mv (.t 1)⟩,
  ⟨some 4, none, .mv (.t 56)⟩]) .ret))))
def f25 : FD := ⟨57, [.t 4], d25, .all⟩
theorem ok25 : compF planOf Tryd.prog 25 = some ⟨57, [.t 4], d25.er⟩ := by kernel_rfl
def b26_0 : D := .seq (.seq (.reg [⟨some 26, none, .mv (.t 6)⟩,
  ⟨some 27, none, .mv (.t 0)⟩,
  ⟨some 28, none, .llen (.t 27)⟩,
  ⟨some 29, none, .bin .lss (.t 26) (.t 28)⟩,
  ⟨some 30, none, .mv (.t 29)⟩,
  ⟨some 31, some (30, true), .mv (.t 0)⟩,
  ⟨some 32, some (30, true), .mv (.t 6)⟩,
  ⟨some 33, some (30, true), .ia 1 (.t 31) (.t 32)⟩,
  ⟨some 34, some (30, true), .ld (.t 33)⟩,
  ⟨some 35, some (30, true), .call 45 [.t 34]⟩,
  ⟨some 36, some (30, true), .mv (.t 35)⟩,
  ⟨some 37, some (36, false), .mv (.t 0)⟩,
  ⟨some 38, some (36, false), .mv (.t 6)⟩,
  ⟨some 39, some (36, false), .ia 1 (.t 37) (.t 38)⟩,
  ⟨some 40, some (36, false), .ld (.t 39)⟩,
  ⟨some 41, some (36, false), .call 46 [.t 40]⟩,
  ⟨some 42, some (30, true), .pick (.t 36) (.c (.bool true)) (.t 41)⟩,
  ⟨some 43, some (30, true), .mv (.t 42)⟩,
  ⟨some 44, some (43, false), .mv (.t 0)⟩,
  ⟨some 45, some (43, false), .mv (.t 6)⟩,
  ⟨some 46, some (43, false), .ia 1 (.t 44) (.t 45)⟩,
  ⟨some 47, some (43, false), .ld (.t 46)⟩,
  ⟨some 48, some (43, false), .bin .eql (.t 47) (.c (.int .u8 95))⟩,
  ⟨some 49, some (30, true), .pick (.t 43) (.c (.bool true)) (.t 48)⟩,
  ⟨some 50, none, .pick (.t 30) (.t 49) (.c (.bool false))⟩]) (.kb [0, 1, 4, 6, 50] (.cond (.t 50) .skip (.exit 1)))) (.kb [0, 1, 4, 6] (.block 2 (.reg [⟨some 51, none, .mv (.t 6)⟩,
  ⟨some 52, none, .bin .add (.t 51) (.c (.int .i64 1))⟩,
  ⟨some 6, none, .mv (.t 52)⟩])))
def b26_1 : D := .seq (.seq (.reg [⟨some 67, none, .mv (.t 6)⟩,
  ⟨some 68, none, .mv (.t 0)⟩,
  ⟨some 69, none, .llen (.t 68)⟩,
  ⟨some 70, none, .bin .lss (.t 67) (.t 69)⟩,
  ⟨some 71, none, .mv (.t 70)⟩,
  ⟨some 72, some (71, true), .mv (.t 0)⟩,
  ⟨some 73, some (71, true), .mv (.t 6)⟩,
  ⟨some 74, some (71, true), .ia 1 (.t 72) (.t 73)⟩,
  ⟨some 75, some (71, true), .ld (.t 74)⟩,
  ⟨some 76, some (71, true), .call 46 [.t 75]⟩,
  ⟨some 77, none, .pick (.t 71) (.t 76) (.c (.bool false))⟩]) (.kb [0, 1, 4, 6, 77] (.cond (.t 77) .skip (.exit 3)))) (.kb [0, 1, 4, 6] (.block 4 (.reg [⟨some 78, none, .mv (.t 6)⟩,
  ⟨some 79, none, .bin .add (.t 78) (.c (.int .i64 1))⟩,
  ⟨some 6, none, .mv (.t 79)⟩])))
def d26 : D := .seq (.reg [⟨some 4, none, .new [.int .i64 0, .str [], .int .i64 0, .int .i64 0]⟩,
  ⟨some 5, none, .mv (.c (.int .i64 0))⟩]) (.kb [0, 1, 4] (.seq (.drw (.q ⟨some 9, none, .mv (.t 1)⟩ (.q ⟨some 10, none, .mv (.t 0)⟩ (.q ⟨some 11, none, .mv (.t 1)⟩ (.q ⟨some 12, none, .ia 1 (.t 10) (.t 11)⟩ (.q ⟨some 13, none, .ld (.t 12)⟩ (.q ⟨some 6, none, .mv (.t 9)⟩ (.q ⟨some 7, none, .mv (.t 13)⟩ (.q ⟨some 8, none, .mv (.c (.int .i64 4))⟩ (.done)))))))))) (.kb [0, 1, 4, 6, 7, 8] (.seq (.block 0 (.seq (.reg [⟨some 24, none, .mv (.t 7)⟩,
  ⟨some 25, none, .call 45 [.t 24]⟩,
  ⟨some 23, none, .mv (.t 25)⟩]) (.kb [0, 1, 4, 6, 7, 8, 23] (.cond (.t 23) (.seq (.block 1 (.loop [0, 1, 4, 6] b26_0)) (.kb [0, 1, 4, 6] (.seq (.reg [⟨some 8, none, .mv (.c (.int .i64 1))⟩]) (.kb [0, 1, 4, 6, 8] (.seq (.seq (.reg [⟨some 53, none, .mv (.t 0)⟩,
  ⟨some 54, none, .mv (.t 1)⟩,
  ⟨some 55, none, .mv (.t 6)⟩,
  ⟨some 56, none, .lsl 1 (.t 53) (some (.t 54)) (some (.t 55))⟩,
  ⟨some 57, none, .b2s (.t 56)⟩,
  ⟨some 58, none, .call 47 [.t 57]⟩]) (.kb [0, 1, 4, 6, 8, 58] (.cond (.t 58) (.reg [⟨some 8, none, .mv (.c (.int .i64 2))⟩]) .skip))) (.kb [0, 1, 4, 6, 8] (.seq (.reg [⟨some 59, none, .mv (.t 6)⟩,
  ⟨some 60, none, .mv (.t 1)⟩,
  ⟨some 61, none, .bin .sub (.t 59) (.t 60)⟩,
  ⟨some 62, none, .bin .gtr (.t 61) (.c (.int .i64 24))⟩]) (.kb [0, 1, 4, 6, 8, 62] (.cond (.t 62) (.seq (.reg [⟨some 63, none, .build [.int .i64 0, .str [], .int .i64 0, .int .i64 0] []⟩,
  ⟨none, none, .st 4 (.t 4) (.t 63)⟩,
  ⟨some 5, none, .mv (.c (.int .i64 3))⟩]) .ret) .skip))))))))) (.seq (.reg [⟨some 65, none, .mv (.t 7)⟩,
  ⟨some 66, none, .call 46 [.t 65]⟩,
  ⟨some 64, none, .mv (.t 66)⟩]) (.kb [0, 1, 4, 6, 8, 64] (.cond (.t 64) (.seq (.block 3 (.loop [0, 1, 4, 6] b26_1)) (.kb [0, 1, 4, 6] (.seq (.reg [⟨some 8, none, .mv (.c (.int .i64 3))⟩]) (.kb [0, 1, 4, 6, 8] (.seq (.reg [⟨some 80, none, .mv (.t 6)⟩,
  ⟨some 81, none, .mv (.t 1)⟩,
  ⟨some 82, none, .bin .sub (.t 80) (.t 81)⟩,
  ⟨some 83, none, .bin .gtr (.t 82) (.c (.int .i64 40))⟩]) (.kb [0, 1, 4, 6, 8, 83] (.cond (.t 83) (.seq (.reg [⟨some 84, none, .build [.int .i64 0, .str [], .int .i64 0, .int .i64 0] []⟩,
  ⟨none, none, .st 4 (.t 4) (.t 84)⟩,
  ⟨some 5, none, .mv (.c (.int .i64 3))⟩]) .ret) .skip))))))) (.seq (.reg [⟨some 14, none, .mv (.t 6)⟩,
  ⟨some 15, none, .mv (.t 0)⟩,
  ⟨some 16, none, .mv (.t 1)⟩,
  ⟨some 17, none, .call 48 [.t 15, .t 16]⟩,
  ⟨some 18, none, .bin .add (.t 14) (.t 17)⟩,
  ⟨some 6, none, .mv (.t 18)⟩]) (.kb [0, 1, 4, 6, 8] (.seq (.reg [⟨some 19, none, .mv (.t 6)⟩,
  ⟨some 20, none, .mv (.t 1)⟩,
  ⟨some 21, none, .bin .eql (.t 19) (.t 20)⟩]) (.kb [0, 1, 4, 6, 8, 21] (.cond (.t 21) (.seq (.reg [⟨some 22, none, .build [.int .i64 0, .str [], .int .i64 0, .int .i64 0] []⟩,
  ⟨none, none, .st 4 (.t 4) (.t 22)⟩,
  ⟨some 5, none, .mv (.c (.int .i64 20))⟩]) .ret) .skip)))))))))))) (.kb [0, 1, 4, 6, 8] (.seq (.reg [⟨some 85, none, .mv (.t 8)⟩,
  ⟨some 86, none, .mv (.t 0)⟩,
  ⟨some 87, none, .mv (.t 1)⟩,
  ⟨some 88, none, .mv (.t 6)⟩,
  ⟨some 89, none, .lsl 1 (.t 86) (some (.t 87)) (some (.t 88))⟩,
  ⟨some 90, none, .b2s (.t 89)⟩,
  ⟨some 91, none, .mv (.t 1)⟩,
  ⟨some 92, none, .mv (.t 6)⟩,
  ⟨some 93, none, .build [.int .i64 0, .int .i64 0] [(0, 1, .t 91), (1, 1, .t 92)]⟩,
  ⟨some 94, none, .build [.int .i64 0, .str [], .int .i64 0, .int .i64 0] [(0, 1, .t 85), (1, 1, .t 90), (2, 2, .t 93)]⟩,
  ⟨none, none, .st 4 (.t 4) (.t 94)⟩,
  ⟨some 5, none, .mv (.c (.int .i64 0))⟩]) .ret))))))
def f26 : FD := ⟨95, [.c 4 (some 4), .t 5], d26, .all⟩
theorem ok26 : compF planOf Tryd.prog 26 = some ⟨95, [.c 4 (some 4), .t 5], d26.er⟩ := by kernel_rfl
def d27 : D := .seq (.reg [⟨some 4, none, .mv (.c (.bool false))⟩]) (.kb [0, 1] (.seq (.seq (.reg [⟨some 5, none, .mv (.t 0)⟩,
  ⟨some 6, none, .mv (.t 1)⟩,
  ⟨some 7, none, .call 49 [.t 5, .t 6]⟩,
  ⟨some 8, none, .un .not (.t 7)⟩]) (.kb [0, 8] (.cond (.t 8) (.seq (.reg [⟨some 4, none, .mv (.c (.bool false))⟩]) .ret) .skip))) (.kb [0] (.seq (.reg [⟨some 9, none, .mv (.t 0)⟩,
  ⟨some 10, none, .nilck (.t 9)⟩,
  ⟨some 11, none, .fa 1 (.t 10)⟩,
  ⟨some 12, none, .ld (.t 11)⟩,
  ⟨some 13, none, .bin .add (.t 12) (.c (.int .i64 1))⟩,
  ⟨some 14, none, .nilck (.t 9)⟩,
  ⟨some 15, none, .fa 1 (.t 14)⟩,
  ⟨none, none, .st 1 (.t 15) (.t 13)⟩]) (.kb [] (.seq (.reg [⟨some 4, none, .mv (.c (.bool true))⟩]) .ret))))))
def f27 : FD := ⟨16, [.t 4], d27, .all⟩
theorem ok27 : compF planOf Tryd.prog 27 = some ⟨16, [.t 4], d27.er⟩ := by kernel_rfl
def b28_0 : D := .block 1 (.seq (.reg [⟨some 20, none, .mv (.t 0)⟩,
  ⟨some 21, none, .call 50 [.t 20]⟩,
  ⟨some 5, none, .new [.int .i64 0, .str [], .int .i64 0, .int .i64 0]⟩,
  ⟨none, none, .st 4 (.t 5) (.t 21)⟩]) (.kb [0, 1, 5] (.seq (.drw (.q ⟨some 22, none, .mv (.t 1)⟩ (.q ⟨some 23, none, .mv (.t 1)⟩ (.q ⟨some 24, none, .nilck (.t 23)⟩ (.q ⟨some 25, none, .fa 5 (.t 24)⟩ (.q ⟨some 26, none, .ld (.t 25)⟩ (.q ⟨some 27, none, .fa 1 (.t 5)⟩ (.q ⟨some 28, none, .ld (.t 27)⟩ (.q ⟨some 29, none, .fa 2 (.t 5)⟩ (.q ⟨some 30, none, .lda 2 (.t 29)⟩ (.q ⟨some 31, none, .build [.int .i64 0, .int .i64 0, .nils, .int .i64 0, .int .i64 0] [(0, 1, .c (.int .i64 1)), (3, 2, .t 30)]⟩ (.q ⟨some 32, none, .fa 2 (.t 5)⟩ (.q ⟨some 33, none, .lda 2 (.t 32)⟩ (.q ⟨some 34, none, .build [.str [], .int .i64 0, .int .i64 0, .nils, .int .i64 0, .int .i64 0, .int .i64 0, .int .i64 0] [(0, 1, .t 28), (1, 5, .t 31), (6, 2, .t 33)]⟩ (.alt ⟨some 35, none, .bslice [.str [], .int .i64 0, .int .i64 0, .nils, .int .i64 0, .int .i64 0, .int .i64 0, .int .i64 0] 1 [(0, .t 34)]⟩ [⟨some 26, none, .ld (.t 25)⟩] (.alt ⟨some 36, none, .app 88 8 (.t 26) (.t 35)⟩ [] (.q ⟨some 37, none, .nilck (.t 22)⟩ (.q ⟨some 38, none, .fa 5 (.t 37)⟩ (.alt ⟨none, none, .st 1 (.t 38) (.t 36)⟩ [] (.done) (.stop)))) (.stop)) (.stop)))))))))))))))) (.kb [0, 1, 5] (.seq (.seq (.reg [⟨some 39, none, .mv (.t 1)⟩,
  ⟨some 40, none, .nilck (.t 39)⟩,
  ⟨some 41, none, .fa 5 (.t 40)⟩,
  ⟨some 42, none, .ld (.t 41)⟩,
  ⟨some 43, none, .llen (.t 42)⟩,
  ⟨some 44, none, .bin .gtr (.t 43) (.c (.int .i64 12))⟩]) (.kb [0, 1, 5, 44] (.cond (.t 44) (.reg [⟨some 45, none, .fa 2 (.t 5)⟩,
  ⟨some 46, none, .lda 2 (.t 45)⟩,
  ⟨some 47, none, .build [.int .i64 0, .int .i64 0, .int .i64 0] [(0, 2, .t 46), (2, 1, .c (.int .i64 3))]⟩,
  ⟨some 48, none, .mki 62 (.t 47)⟩,
  ⟨none, none, .panic (.t 48)⟩]) .skip))) (.kb [0, 1] (.seq (.reg [⟨some 49, none, .mv (.t 0)⟩,
  ⟨some 50, none, .call 27 [.t 49, .c (.str [44])]⟩,
  ⟨some 51, none, .un .not (.t 50)⟩]) (.kb [0, 1, 51] (.cond (.t 51) (.exit 0) .skip)))))))))
def d28 : D := .seq (.reg [⟨some 6, none, .mv (.t 0)⟩,
  ⟨some 7, none, .call 50 [.t 6]⟩,
  ⟨some 4, none, .new [.int .i64 0, .str [], .int .i64 0, .int .i64 0]⟩,
  ⟨none, none, .st 4 (.t 4) (.t 7)⟩]) (.kb [0, 1, 4] (.seq (.drw (.q ⟨some 8, none, .mv (.t 1)⟩ (.q ⟨some 9, none, .mv (.t 1)⟩ (.q ⟨some 10, none, .fa 1 (.t 4)⟩ (.q ⟨some 11, none, .ld (.t 10)⟩ (.q ⟨some 12, none, .fa 2 (.t 4)⟩ (.q ⟨some 13, none, .lda 2 (.t 12)⟩ (.q ⟨some 14, none, .nilck (.t 8)⟩ (.q ⟨some 15, none, .fa 2 (.t 14)⟩ (.alt ⟨none, none, .st 1 (.t 15) (.t 11)⟩ [⟨some 13, none, .lda 2 (.t 12)⟩] (.q ⟨some 16, none, .nilck (.t 9)⟩ (.q ⟨some 17, none, .fa 3 (.t 16)⟩ (.alt ⟨none, none, .st 2 (.t 17) (.t 13)⟩ [] (.done) (.stop)))) (.stop))))))))))) (.kb [0, 1] (.seq (.reg [⟨some 18, none, .mv (.t 0)⟩,
  ⟨some 19, none, .call 29 [.t 18, .c (.str [40])]⟩]) (.kb [0, 1] (.seq (.block 0 (.loop [0, 1] b28_0)) (.kb [0, 1] (.seq (.reg [⟨some 52, none, .mv (.t 0)⟩,
  ⟨some 53, none, .call 29 [.t 52, .c (.str [41])]⟩]) (.kb [1] (.reg [⟨some 54, none, .mv (.t 1)⟩,
  ⟨some 55, none, .build [.int .i64 0, .int .i64 0, .nils, .int .i64 0, .int .i64 0] [(0, 1, .c (.int .i64 2))]⟩,
  ⟨some 56, none, .nilck (.t 54)⟩,
  ⟨some 57, none, .fa 6 (.t 56)⟩,
  ⟨none, none, .st 5 (.t 57) (.t 55)⟩]))))))))))
def f28 : FD := ⟨58, [], d28, .raw⟩
theorem ok28 : compF planOf Tryd.prog 28 = some ⟨58, [], d28.er⟩ := by kernel_rfl
def d29 : D := .seq (.reg [⟨some 4, none, .new [.int .i64 0, .str [], .int .i64 0, .int .i64 0]⟩]) (.kb [0, 1, 4] (.seq (.reg [⟨some 6, none, .mv (.t 0)⟩,
  ⟨some 7, none, .call 32 [.t 6]⟩,
  ⟨some 5, none, .new [.int .i64 0, .str [], .int .i64 0, .int .i64 0]⟩,
  ⟨none, none, .st 4 (.t 5) (.t 7)⟩]) (.kb [0, 1, 4, 5] (.seq (.seq (.reg [⟨some 8, none, .mv (.t 0)⟩,
  ⟨some 9, none, .mv (.t 1)⟩,
  ⟨some 10, none, .call 27 [.t 8, .t 9]⟩,
  ⟨some 11, none, .un .not (.t 10)⟩]) (.kb [0, 4, 5, 11] (.cond (.t 11) (.reg [⟨some 12, none, .mv (.t 0)⟩,
  ⟨some 13, none, .call 51 [.t 12]⟩]) .skip))) (.kb [4, 5] (.seq (.reg [⟨some 14, none, .lda 4 (.t 5)⟩,
  ⟨none, none, .st 4 (.t 4) (.t 14)⟩]) .ret))))))
def f29 : FD := ⟨15, [.c 4 (some 4)], d29, .all⟩
theorem ok29 : compF planOf Tryd.prog 29 = some ⟨15, [.c 4 (some 4)], d29.er⟩ := by kernel_rfl
def b30_0 : D := .seq (.seq (.reg [⟨some 20, none, .mv (.t 0)⟩,
  ⟨some 21, none, .call 49 [.t 20, .c (.str [41])]⟩,
  ⟨some 22, none, .un .not (.t 21)⟩]) (.kb [0, 1, 22] (.cond (.t 22) .skip (.exit 0)))) (.kb [0, 1] (.block 1 (.seq (.seq (.reg [⟨some 23, none, .mv (.t 1)⟩,
  ⟨some 24, none, .nilck (.t 23)⟩,
  ⟨some 25, none, .fa 5 (.t 24)⟩,
  ⟨some 26, none, .ld (.t 25)⟩,
  ⟨some 27, none, .llen (.t 26)⟩,
  ⟨some 28, none, .bin .gtr (.t 27) (.c (.int .i64 0))⟩]) (.kb [0, 1, 28] (.cond (.t 28) (.reg [⟨some 29, none, .mv (.t 0)⟩,
  ⟨some 30, none, .call 29 [.t 29, .c (.str [44])]⟩]) .skip))) (.kb [0, 1] (.seq (.reg [⟨some 31, none, .mv (.t 0)⟩,
  ⟨some 32, none, .call 50 [.t 31]⟩,
  ⟨some 5, none, .new [.int .i64 0, .str [], .int .i64 0, .int .i64 0]⟩,
  ⟨none, none, .st 4 (.t 5) (.t 32)⟩]) (.kb [0, 1, 5] (.seq (.reg [⟨some 33, none, .mv (.t 0)⟩,
  ⟨some 34, none, .call 29 [.t 33, .c (.str [58])]⟩]) (.kb [0, 1, 5] (.seq (.drw (.q ⟨some 35, none, .mv (.t 1)⟩ (.q ⟨some 36, none, .mv (.t 1)⟩ (.q ⟨some 37, none, .nilck (.t 36)⟩ (.q ⟨some 38, none, .fa 5 (.t 37)⟩ (.q ⟨some 39, none, .ld (.t 38)⟩ (.q ⟨some 40, none, .fa 1 (.t 5)⟩ (.q ⟨some 41, none, .ld (.t 40)⟩ (.q ⟨some 42, none, .mv (.t 0)⟩ (.q ⟨some 44, none, .fa 2 (.t 5)⟩ (.q ⟨some 45, none, .lda 2 (.t 44)⟩ (.alt ⟨some 43, none, .call 52 [.t 42]⟩ [⟨some 45, none, .lda 2 (.t 44)⟩, ⟨some 41, none, .ld (.t 40)⟩, ⟨some 39, none, .ld (.t 38)⟩] (.q ⟨some 46, none, .build [.str [], .int .i64 0, .int .i64 0, .nils, .int .i64 0, .int .i64 0, .int .i64 0, .int .i64 0] [(0, 1, .t 41), (1, 5, .t 43), (6, 2, .t 45)]⟩ (.alt ⟨some 47, none, .bslice [.str [], .int .i64 0, .int .i64 0, .nils, .int .i64 0, .int .i64 0, .int .i64 0, .int .i64 0] 1 [(0, .t 46)]⟩ [⟨some 39, none, .ld (.t 38)⟩] (.alt ⟨some 48, none, .app 88 8 (.t 39) (.t 47)⟩ [] (.q ⟨some 49, none, .nilck (.t 35)⟩ (.q ⟨some 50, none, .fa 5 (.t 49)⟩ (.alt ⟨none, none, .st 1 (.t 50) (.t 48)⟩ [] (.done) (.stop)))) (.stop)) (.stop))) (.stop))))))))))))) (.kb [0, 1, 5] (.seq (.reg [⟨some 51, none, .mv (.t 1)⟩,
  ⟨some 52, none, .nilck (.t 51)⟩,
  ⟨some 53, none, .fa 5 (.t 52)⟩,
  ⟨some 54, none, .ld (.t 53)⟩,
  ⟨some 55, none, .llen (.t 54)⟩,
  ⟨some 56, none, .bin .gtr (.t 55) (.c (.int .i64 6))⟩]) (.kb [0, 1, 5, 56] (.cond (.t 56) (.reg [⟨some 57, none, .fa 2 (.t 5)⟩,
  ⟨some 58, none, .lda 2 (.t 57)⟩,
  ⟨some 59, none, .build [.int .i64 0, .int .i64 0, .int .i64 0] [(0, 2, .t 58), (2, 1, .c (.int .i64 3))]⟩,
  ⟨some 60, none, .mki 62 (.t 59)⟩,
  ⟨none, none, .panic (.t 60)⟩]) .skip)))))))))))))
def d30 : D := .seq (.reg [⟨some 6, none, .mv (.t 0)⟩,
  ⟨some 7, none, .call 50 [.t 6]⟩,
  ⟨some 4, none, .new [.int .i64 0, .str [], .int .i64 0, .int .i64 0]⟩,
  ⟨none, none, .st 4 (.t 4) (.t 7)⟩]) (.kb [0, 1, 4] (.seq (.drw (.q ⟨some 8, none, .mv (.t 1)⟩ (.q ⟨some 9, none, .mv (.t 1)⟩ (.q ⟨some 10, none, .fa 1 (.t 4)⟩ (.q ⟨some 11, none, .ld (.t 10)⟩ (.q ⟨some 12, none, .fa 2 (.t 4)⟩ (.q ⟨some 13, none, .lda 2 (.t 12)⟩ (.q ⟨some 14, none, .nilck (.t 8)⟩ (.q ⟨some 15, none, .fa 2 (.t 14)⟩ (.alt ⟨none, none, .st 1 (.t 15) (.t 11)⟩ [⟨some 13, none, .lda 2 (.t 12)⟩] (.q ⟨some 16, none, .nilck (.t 9)⟩ (.q ⟨some 17, none, .fa 3 (.t 16)⟩ (.alt ⟨none, none, .st 2 (.t 17) (.t 13)⟩ [] (.done) (.stop)))) (.stop))))))))))) (.kb [0, 1] (.seq (.reg [⟨some 18, none, .mv (.t 0)⟩,
  ⟨some 19, none, .call 29 [.t 18, .c (.str [40])]⟩]) (.kb [0, 1] (.seq (.block 0 (.loop [0, 1] b30_0)) (.kb [0, 1] (.seq (.reg [⟨some 61, none, .mv (.t 0)⟩,
  ⟨some 62, none, .call 29 [.t 61, .c (.str [41])]⟩]) (.kb [0, 1] (.seq (.reg [⟨some 63, none, .mv (.t 0)⟩,
  ⟨some 64, none, .call 29 [.t 63, .c (.str [45, 62])]⟩]) (.kb [0, 1] (.reg [⟨some 65, none, .mv (.t 1)⟩,
  ⟨some 66, none, .mv (.t 0)⟩,
  ⟨some 67, none, .call 52 [.t 66]⟩,
  ⟨some 68, none, .nilck (.t 65)⟩,
  ⟨some 69, none, .fa 6 (.t 68)⟩,
  ⟨none, none, .st 5 (.t 69) (.t 67)⟩]))))))))))))
def f30 : FD := ⟨70, [], d30, .raw⟩
theorem ok30 : compF planOf Tryd.prog 30 = some ⟨70, [], d30.er⟩ := by kernel_rfl
def d31 : D := .seq (.reg [⟨some 1, none, .box (.t 0)⟩,
  ⟨some 2, none, .new [.int .i64 0, .str [], .bool false, .nils, .nils, .int .i64 0, .int .i64 0]⟩]) (.kb [1, 2] (.seq (.reg [⟨some 12, none, .ld (.t 1)⟩,
  ⟨some 13, none, .call 53 [.t 12]⟩]) (.kb [1, 2] (.seq (.reg [⟨some 14, none, .mkf (.func 54) [] [.t 1]⟩,
  ⟨none, none, .defer (.t 14) []⟩]) (.kb [1, 2] (.seq (.reg [⟨some 15, none, .ld (.t 1)⟩,
  ⟨some 16, none, .call 32 [.t 15]⟩,
  ⟨some 17, none, .fld (some 2) 2 (.t 16)⟩,
  ⟨some 18, none, .fld none 0 (.t 17)⟩,
  ⟨some 3, none, .mv (.t 18)⟩]) (.kb [1, 2, 3] (.seq (.block 0 (.seq (.reg [⟨some 20, none, .ld (.t 1)⟩,
  ⟨some 21, none, .call 27 [.t 20, .c (.str [108, 101, 116])]⟩,
  ⟨some 19, none, .mv (.t 21)⟩]) (.kb [1, 2, 3, 19] (.cond (.t 19) (.seq (.reg [⟨some 22, none, .ld (.t 1)⟩,
  ⟨some 23, none, .call 50 [.t 22]⟩,
  ⟨some 24, none, .fld none 1 (.t 23)⟩,
  ⟨some 4, none, .mv (.t 24)⟩]) (.kb [1, 2, 3, 4] (.seq (.reg [⟨some 25, none, .ld (.t 1)⟩,
  ⟨some 26, none, .call 29 [.t 25, .c (.str [61])]⟩]) (.kb [1, 2, 3, 4] (.seq (.reg [⟨some 27, none, .ld (.t 1)⟩,
  ⟨some 28, none, .call 31 [.t 27]⟩,
  ⟨some 5, none, .new [.int .i64 0, .str [], .bool false, .nils, .nils, .int .i64 0, .int .i64 0]⟩,
  ⟨none, none, .st 7 (.t 5) (.t 28)⟩]) (.kb [1, 2, 3, 4, 5] (.seq (.reg [⟨some 29, none, .ld (.t 1)⟩,
  ⟨some 30, none, .call 29 [.t 29, .c (.str [105, 110])]⟩]) (.kb [1, 2, 3, 4, 5] (.seq (.drw (.q ⟨some 31, none, .ld (.t 1)⟩ (.q ⟨some 32, none, .mv (.t 3)⟩ (.q ⟨some 33, none, .lda 7 (.t 5)⟩ (.q ⟨some 34, none, .ld (.t 1)⟩ (.alt ⟨some 35, none, .call 31 [.t 34]⟩ [⟨some 33, none, .lda 7 (.t 5)⟩, ⟨some 31, none, .ld (.t 1)⟩] (.alt ⟨some 36, none, .bslice [.int .i64 0, .str [], .bool false, .nils, .nils, .int .i64 0, .int .i64 0] 2 [(0, .t 33), (1, .t 35)]⟩ [⟨some 31, none, .ld (.t 1)⟩] (.alt ⟨some 37, none, .call 55 [.t 31, .c (.int .i64 21), .t 32, .t 36]⟩ [] (.alt ⟨some 6, none, .new [.int .i64 0, .str [], .bool false, .nils, .nils, .int .i64 0, .int .i64 0]⟩ [⟨some 34, none, .ld (.t 1)⟩, ⟨some 33, none, .lda 7 (.t 5)⟩, ⟨some 31, none, .ld (.t 1)⟩] (.alt ⟨none, none, .st 7 (.t 6) (.t 37)⟩ [] (.done) (.stop)) (.stop)) (.alt ⟨some 6, none, .new [.int .i64 0, .str [], .bool false, .nils, .nils, .int .i64 0, .int .i64 0]⟩ [⟨some 34, none, .ld (.t 1)⟩, ⟨some 33, none, .lda 7 (.t 5)⟩, ⟨some 31, none, .ld (.t 1)⟩] (.alt ⟨some 37, none, .call 55 [.t 31, .c (.int .i64 21), .t 32, .t 36]⟩ [] (.alt ⟨none, none, .st 7 (.t 6) (.t 37)⟩ [] (.done) (.stop)) (.stop)) (.stop))) (.alt ⟨some 6, none, .new [.int .i64 0, .str [], .bool false, .nils, .nils, .int .i64 0, .int .i64 0]⟩ [⟨some 34, none, .ld (.t 1)⟩, ⟨some 33, none, .lda 7 (.t 5)⟩, ⟨some 31, none, .ld (.t 1)⟩] (.alt ⟨some 36, none, .bslice [.int .i64 0, .str [], .bool false, .nils, .nils, .int .i64 0, .int .i64 0] 2 [(0, .t 33), (1, .t 35)]⟩ [⟨some 31, none, .ld (.t 1)⟩] (.alt ⟨some 37, none, .call 55 [.t 31, .c (.int .i64 21), .t 32, .t 36]⟩ [] (.alt ⟨none, none, .st 7 (.t 6) (.t 37)⟩ [] (.done) (.stop)) (.stop)) (.stop)) (.stop))) (.alt ⟨some 6, none, .new [.int .i64 0, .str [], .bool false, .nils, .nils, .int .i64 0, .int .i64 0]⟩ [⟨some 34, none, .ld (.t 1)⟩, ⟨some 33, none, .lda 7 (.t 5)⟩, ⟨some 31, none, .ld (.t 1)⟩] (.alt ⟨some 35, none, .call 31 [.t 34]⟩ [⟨some 33, none, .lda 7 (.t 5)⟩, ⟨some 31, none, .ld (.t 1)⟩] (.alt ⟨some 36, none, .bslice [.int .i64 0, .str [], .bool false, .nils, .nils, .int .i64 0, .int .i64 0] 2 [(0, .t 33), (1, .t 35)]⟩ [⟨some 31, none, .ld (.t 1)⟩] (.alt ⟨some 37, none, .call 55 [.t 31, .c (.int .i64 21), .t 32, .t 36]⟩ [] (.alt ⟨none, none, .st 7 (.t 6) (.t 37)⟩ [] (.done) (.stop)) (.stop)) (.stop)) (.stop)) (.stop)))))))) (.kb [1, 2, 3, 4, 6] (.seq (.reg [⟨some 38, none, .mv (.t 4)⟩,
  ⟨some 39, none, .ld (.t 1)⟩,
  ⟨some 40, none, .mv (.t 3)⟩,
  ⟨some 41, none, .call 56 [.t 39, .t 40]⟩,
  ⟨some 42, none, .fa 1 (.t 6)⟩,
  ⟨none, none, .st 1 (.t 42) (.t 38)⟩,
  ⟨some 43, none, .fa 5 (.t 6)⟩,
  ⟨none, none, .st 2 (.t 43) (.t 41)⟩]) (.kb [2, 6] (.seq (.reg [⟨some 44, none, .lda 7 (.t 6)⟩,
  ⟨none, none, .st 7 (.t 2) (.t 44)⟩]) .ret))))))))))))) (.seq (.reg [⟨some 46, none, .ld (.t 1)⟩,
  ⟨some 47, none, .call 27 [.t 46, .c (.str [105, 102])]⟩,
  ⟨some 45, none, .mv (.t 47)⟩]) (.kb [1, 2, 3, 45] (.cond (.t 45) (.seq (.reg [⟨some 48, none, .ld (.t 1)⟩,
  ⟨some 49, none, .call 31 [.t 48]⟩,
  ⟨some 7, none, .new [.int .i64 0, .str [], .bool false, .nils, .nils, .int .i64 0, .int .i64 0]⟩,
  ⟨none, none, .st 7 (.t 7) (.t 49)⟩]) (.kb [1, 2, 3, 7] (.seq (.reg [⟨some 50, none, .ld (.t 1)⟩,
  ⟨some 51, none, .call 29 [.t 50, .c (.str [116, 104, 101, 110])]⟩]) (.kb [1, 2, 3, 7] (.seq (.reg [⟨some 52, none, .ld (.t 1)⟩,
  ⟨some 53, none, .call 31 [.t 52]⟩,
  ⟨some 8, none, .new [.int .i64 0, .str [], .bool false, .nils, .nils, .int .i64 0, .int .i64 0]⟩,
  ⟨none, none, .st 7 (.t 8) (.t 53)⟩]) (.kb [1, 2, 3, 7, 8] (.seq (.reg [⟨some 54, none, .ld (.t 1)⟩,
  ⟨some 55, none, .call 29 [.t 54, .c (.str [101, 108, 115, 101])]⟩]) (.kb [1, 2, 3, 7, 8] (.seq (.reg [⟨some 56, none, .ld (.t 1)⟩,
  ⟨some 57, none, .call 31 [.t 56]⟩,
  ⟨some 9, none, .new [.int .i64 0, .str [], .bool false, .nils, .nils, .int .i64 0, .int .i64 0]⟩,
  ⟨none, none, .st 7 (.t 9) (.t 57)⟩]) (.kb [1, 2, 3, 7, 8, 9] (.seq (.reg [⟨some 58, none, .ld (.t 1)⟩,
  ⟨some 59, none, .mv (.t 3)⟩,
  ⟨some 60, none, .lda 7 (.t 7)⟩,
  ⟨some 61, none, .lda 7 (.t 8)⟩,
  ⟨some 62, none, .lda 7 (.t 9)⟩,
  ⟨some 63, none, .bslice [.int .i64 0, .str [], .bool false, .nils, .nils, .int .i64 0, .int .i64 0] 3 [(0, .t 60), (1, .t 61), (2, .t 62)]⟩,
  ⟨some 64, none, .call 55 [.t 58, .c (.int .i64 22), .t 59, .t 63]⟩,
  ⟨none, none, .st 7 (.t 2) (.t 64)⟩]) .ret))))))))))) (.seq (.reg [⟨some 66, none, .ld (.t 1)⟩,
  ⟨some 67, none, .call 27 [.t 66, .c (.str [97, 115, 115, 101, 114, 116])]⟩,
  ⟨some 65, none, .mv (.t 67)⟩]) (.kb [1, 2, 3, 65] (.cond (.t 65) (.seq (.reg [⟨some 68, none, .ld (.t 1)⟩,
  ⟨some 69, none, .call 31 [.t 68]⟩,
  ⟨some 10, none, .new [.int .i64 0, .str [], .bool false, .nils, .nils, .int .i64 0, .int .i64 0]⟩,
  ⟨none, none, .st 7 (.t 10) (.t 69)⟩]) (.kb [1, 2, 3, 10] (.seq (.reg [⟨some 70, none, .ld (.t 1)⟩,
  ⟨some 71, none, .call 29 [.t 70, .c (.str [105, 110])]⟩]) (.kb [1, 2, 3, 10] (.seq (.reg [⟨some 72, none, .ld (.t 1)⟩,
  ⟨some 73, none, .call 31 [.t 72]⟩,
  ⟨some 11, none, .new [.int .i64 0, .str [], .bool false, .nils, .nils, .int .i64 0, .int .i64 0]⟩,
  ⟨none, none, .st 7 (.t 11) (.t 73)⟩]) (.kb [1, 2, 3, 10, 11] (.seq (.reg [⟨some 74, none, .ld (.t 1)⟩,
  ⟨some 75, none, .mv (.t 3)⟩,
  ⟨some 76, none, .lda 7 (.t 10)⟩,
  ⟨some 77, none, .lda 7 (.t 11)⟩,
  ⟨some 78, none, .bslice [.int .i64 0, .str [], .bool false, .nils, .nils, .int .i64 0, .int .i64 0] 2 [(0, .t 76), (1, .t 77)]⟩,
  ⟨some 79, none, .call 55 [.t 74, .c (.int .i64 23), .t 75, .t 78]⟩,
  ⟨none, none, .st 7 (.t 2) (.t 79)⟩]) .ret))))))) .skip)))))))))) (.kb [1, 2] (.seq (.reg [⟨some 80, none, .ld (.t 1)⟩,
  ⟨some 81, none, .call 57 [.t 80, .c (.int .i64 0)]⟩,
  ⟨none, none, .st 7 (.t 2) (.t 81)⟩]) .ret))))))))))
def f31 : FD := ⟨82, [.c 2 (some 7)], d31, .cut⟩
theorem ok31 : compF planOf Tryd.prog 31 = some ⟨82, [.c 2 (some 7)], d31.er⟩ := by kernel_rfl
def d32 : D := .seq (.reg [⟨some 2, none, .new [.int .i64 0, .str [], .int .i64 0, .int .i64 0]⟩]) (.kb [0, 2] (.seq (.drw (.q ⟨some 3, none, .mv (.t 0)⟩ (.q ⟨some 4, none, .nilck (.t 3)⟩ (.q ⟨some 5, none, .fa 0 (.t 4)⟩ (.q ⟨some 6, none, .ld (.t 5)⟩ (.q ⟨some 7, none, .mv (.t 0)⟩ (.q ⟨some 8, none, .nilck (.t 7)⟩ (.q ⟨some 9, none, .fa 1 (.t 8)⟩ (.q ⟨some 10, none, .ld (.t 9)⟩ (.q ⟨some 11, none, .ia 4 (.t 6) (.t 10)⟩ (.q ⟨some 12, none, .lda 4 (.t 11)⟩ (.alt ⟨none, none, .st 4 (.t 2) (.t 12)⟩ [] (.done) (.stop))))))))))))) .ret))
def f32 : FD := ⟨13, [.c 2 (some 4)], d32, .all⟩
theorem ok32 : compF planOf Tryd.prog 32 = some ⟨13, [.c 2 (some 4)], d32.er⟩ := by kernel_rfl
def d33 : D := .reg [⟨some 4, none, .mv (.t 0)⟩,
  ⟨some 5, none, .call 32 [.t 4]⟩,
  ⟨some 6, none, .fld (some 2) 2 (.t 5)⟩,
  ⟨some 7, none, .mv (.t 1)⟩,
  ⟨some 8, none, .build [.int .i64 0, .int .i64 0, .int .i64 0] [(0, 2, .t 6), (2, 1, .t 7)]⟩,
  ⟨some 9, none, .mki 62 (.t 8)⟩,
  ⟨none, none, .panic (.t 9)⟩]
def f33 : FD := ⟨10, [], d33, .all⟩
theorem ok33 : compF planOf Tryd.prog 33 = some ⟨10, [], d33.er⟩ := by kernel_rfl
def d38 : D := .seq (.reg [⟨some 1, none, .box (.t 0)⟩,
  ⟨some 2, none, .mv (.c (.int .i64 0))⟩]) (.kb [1] (.seq (.block 0 (.seq (.reg [⟨some 4, none, .fa 1 (.t 1)⟩,
  ⟨some 5, none, .ld (.t 4)⟩,
  ⟨some 6, none, .call 61 [.t 5]⟩,
  ⟨some 3, none, .mv (.t 6)⟩]) (.kb [1, 3] (.cond (.t 3) (.seq (.reg [⟨some 2, none, .mv (.c (.int .i64 0))⟩]) .ret) (.seq (.reg [⟨some 8, none, .fa 0 (.t 1)⟩,
  ⟨some 9, none, .ld (.t 8)⟩,
  ⟨some 7, none, .mv (.t 9)⟩]) (.kb [7] (.cond (.t 7) (.seq (.reg [⟨some 2, none, .mv (.c (.int .i64 (-1)))⟩]) .ret) .skip))))))) (.kb [] (.seq (.reg [⟨some 2, none, .mv (.c (.int .i64 1))⟩]) .ret))))
def f38 : FD := ⟨10, [.t 2], d38, .all⟩
theorem ok38 : compF planOf Tryd.prog 38 = some ⟨10, [.t 2], d38.er⟩ := by kernel_rfl
def b39_0 : D := .seq (.reg [⟨some 5, none, .mv (.t 25)⟩]) (.kb [3, 4, 5, 26] (.reg [⟨some 6, none, .mv (.t 26)⟩]))
def b39_1 : D := .block 2 (.block 3 (.seq (.reg [⟨some 28, none, .mv (.t 6)⟩,
  ⟨some 29, none, .ld (.t 3)⟩,
  ⟨some 30, none, .mv (.t 5)⟩,
  ⟨some 31, none, .ia 1 (.t 29) (.t 30)⟩,
  ⟨some 32, none, .ld (.t 31)⟩,
  ⟨some 33, none, .bin .lss (.t 28) (.t 32)⟩,
  ⟨some 27, none, .mv (.t 33)⟩]) (.kb [3, 4, 5, 6, 27] (.cond (.t 27) (.seq (.reg [⟨none, none, .st 1 (.t 4) (.c (.int .i64 (-1)))⟩]) .ret) (.seq (.reg [⟨some 35, none, .mv (.t 6)⟩,
  ⟨some 36, none, .ld (.t 3)⟩,
  ⟨some 37, none, .mv (.t 5)⟩,
  ⟨some 38, none, .ia 1 (.t 36) (.t 37)⟩,
  ⟨some 39, none, .ld (.t 38)⟩,
  ⟨some 40, none, .bin .gtr (.t 35) (.t 39)⟩,
  ⟨some 34, none, .mv (.t 40)⟩]) (.kb [4, 34] (.cond (.t 34) (.seq (.reg [⟨none, none, .st 1 (.t 4) (.c (.int .i64 1))⟩]) .ret) .skip)))))))
def d39 : D := .seq (.reg [⟨some 3, none, .box (.t 1)⟩,
  ⟨some 4, none, .new [.int .i64 0]⟩]) (.kb [0, 3, 4] (.seq (.drw (.q ⟨some 7, none, .mv (.t 0)⟩ (.q ⟨some 9, none, .ld (.t 3)⟩ (.alt ⟨some 8, none, .call 62 [.t 7]⟩ [⟨some 9, none, .ld (.t 3)⟩] (.alt ⟨some 10, none, .call 62 [.t 9]⟩ [] (.alt ⟨some 0, none, .mv (.t 8)⟩ [] (.alt ⟨none, none, .st 1 (.t 3) (.t 10)⟩ [] (.done) (.stop)) (.stop)) (.stop)) (.stop))))) (.kb [0, 3, 4] (.seq (.block 0 (.seq (.reg [⟨some 12, none, .mv (.t 0)⟩,
  ⟨some 13, none, .llen (.t 12)⟩,
  ⟨some 14, none, .ld (.t 3)⟩,
  ⟨some 15, none, .llen (.t 14)⟩,
  ⟨some 16, none, .bin .lss (.t 13) (.t 15)⟩,
  ⟨some 11, none, .mv (.t 16)⟩]) (.kb [0, 3, 4, 11] (.cond (.t 11) (.seq (.reg [⟨none, none, .st 1 (.t 4) (.c (.int .i64 (-1)))⟩]) .ret) (.seq (.reg [⟨some 18, none, .mv (.t 0)⟩,
  ⟨some 19, none, .llen (.t 18)⟩,
  ⟨some 20, none, .ld (.t 3)⟩,
  ⟨some 21, none, .llen (.t 20)⟩,
  ⟨some 22, none, .bin .gtr (.t 19) (.t 21)⟩,
  ⟨some 17, none, .mv (.t 22)⟩]) (.kb [0, 3, 4, 17] (.cond (.t 17) (.seq (.reg [⟨none, none, .st 1 (.t 4) (.c (.int .i64 1))⟩]) .ret) .skip))))))) (.kb [0, 3, 4] (.seq (.seq (.reg [⟨some 23, none, .mv (.t 0)⟩,
  ⟨some 24, none, .call 63 [.t 23]⟩]) (.kb [3, 4, 24] (.block 1 (.rng (.t 24) [25, 26] b39_0 b39_1)))) (.kb [4] (.seq (.reg [⟨none, none, .st 1 (.t 4) (.c (.int .i64 0))⟩]) .ret))))))))
def f39 : FD := ⟨41, [.c 4 none], d39, .all⟩
theorem ok39 : compF planOf Tryd.prog 39 = some ⟨41, [.c 4 none], d39.er⟩ := by kernel_rfl
def d40 : D := .seq (.reg [⟨some 1, none, .box (.t 0)⟩,
  ⟨some 2, none, .mv (.c (.str []))⟩]) (.kb [1] (.seq (.seq (.reg [⟨some 5, none, .fa 0 (.t 1)⟩,
  ⟨some 6, none, .ld (.t 5)⟩]) (.kb [1, 6] (.block 0 (.seq (.reg [⟨some 8, none, .bin .eql (.t 6) (.c (.int .i64 1))⟩,
  ⟨some 7, none, .mv (.t 8)⟩]) (.kb [1, 6, 7] (.cond (.t 7) (.seq (.reg [⟨some 9, none, .fa 2 (.t 1)⟩,
  ⟨some 10, none, .lda 2 (.t 9)⟩,
  ⟨some 11, none, .call 23 [.t 10]⟩,
  ⟨some 2, none, .mv (.t 11)⟩]) .ret) (.seq (.reg [⟨some 13, none, .bin .eql (.t 6) (.c (.int .i64 2))⟩,
  ⟨some 12, none, .mv (.t 13)⟩]) (.kb [1, 6, 12] (.cond (.t 12) (.seq (.reg [⟨some 2, none, .mv (.c (.str [116, 114, 117, 101]))⟩]) .ret) (.seq (.reg [⟨some 15, none, .bin .eql (.t 6) (.c (.int .i64 3))⟩,
  ⟨some 14, none, .mv (.t 15)⟩]) (.kb [1, 6, 14] (.cond (.t 14) (.seq (.reg [⟨some 2, none, .mv (.c (.str [102, 97, 108, 115, 101]))⟩]) .ret) (.seq (.reg [⟨some 17, none, .bin .eql (.t 6) (.c (.int .i64 4))⟩,
  ⟨some 16, none, .mv (.t 17)⟩]) (.kb [1, 6, 16] (.cond (.t 16) (.seq (.reg [⟨some 18, none, .fa 1 (.t 1)⟩,
  ⟨some 19, none, .ld (.t 18)⟩,
  ⟨some 2, none, .mv (.t 19)⟩]) .ret) (.seq (.reg [⟨some 21, none, .bin .eql (.t 6) (.c (.int .i64 5))⟩,
  ⟨some 20, none, .mv (.t 21)⟩]) (.kb [1, 6, 20] (.cond (.t 20) (.seq (.drw (.q ⟨some 22, none, .fa 1 (.t 1)⟩ (.q ⟨some 23, none, .ld (.t 22)⟩ (.q ⟨some 24, none, .bin .add (.t 23) (.c (.str [40]))⟩ (.q ⟨some 25, none, .fa 4 (.t 1)⟩ (.q ⟨some 26, none, .ld (.t 25)⟩ (.alt ⟨some 27, none, .call 64 [.t 26]⟩ [⟨some 23, none, .ld (.t 22)⟩] (.q ⟨some 28, none, .bin .add (.t 24) (.t 27)⟩ (.q ⟨some 29, none, .bin .add (.t 28) (.c (.str [41]))⟩ (.q ⟨some 2, none, .mv (.t 29)⟩ (.done)))) (.stop)))))))) .ret) (.seq (.reg [⟨some 31, none, .bin .eql (.t 6) (.c (.int .i64 6))⟩,
  ⟨some 30, none, .mv (.t 31)⟩]) (.kb [1, 6, 30] (.cond (.t 30) (.seq (.reg [⟨some 32, none, .lda 7 (.t 1)⟩,
  ⟨some 33, none, .call 65 [.t 32, .c (.int .i64 0)]⟩,
  ⟨some 34, none, .call 22 [.t 33, .c (.int .i64 6)]⟩,
  ⟨some 35, none, .bin .add (.c (.str [45])) (.t 34)⟩,
  ⟨some 2, none, .mv (.t 35)⟩]) .ret) (.seq (.reg [⟨some 37, none, .bin .eql (.t 6) (.c (.int .i64 7))⟩,
  ⟨some 36, none, .mv (.t 37)⟩]) (.kb [1, 6, 36] (.cond (.t 36) (.seq (.reg [⟨some 38, none, .lda 7 (.t 1)⟩,
  ⟨some 39, none, .call 65 [.t 38, .c (.int .i64 0)]⟩,
  ⟨some 40, none, .call 22 [.t 39, .c (.int .i64 6)]⟩,
  ⟨some 41, none, .bin .add (.c (.str [110, 111, 116, 32])) (.t 40)⟩,
  ⟨some 2, none, .mv (.t 41)⟩]) .ret) (.seq (.reg [⟨some 43, none, .bin .eql (.t 6) (.c (.int .i64 21))⟩,
  ⟨some 42, none, .mv (.t 43)⟩]) (.kb [1, 6, 42] (.cond (.t 42) (.seq (.drw (.q ⟨some 44, none, .fa 1 (.t 1)⟩ (.q ⟨some 45, none, .ld (.t 44)⟩ (.q ⟨some 46, none, .bin .add (.c (.str [108, 101, 116, 32])) (.t 45)⟩ (.q ⟨some 47, none, .bin .add (.t 46) (.c (.str [32, 61, 32]))⟩ (.q ⟨some 48, none, .lda 7 (.t 1)⟩ (.q ⟨some 53, none, .lda 7 (.t 1)⟩ (.alt ⟨some 49, none, .call 65 [.t 48, .c (.int .i64 0)]⟩ [⟨some 53, none, .lda 7 (.t 1)⟩, ⟨some 45, none, .ld (.t 44)⟩] (.alt ⟨some 50, none, .call 22 [.t 49, .c (.int .i64 0)]⟩ [⟨some 53, none, .lda 7 (.t 1)⟩, ⟨some 45, none, .ld (.t 44)⟩] (.q ⟨some 51, none, .bin .add (.t 47) (.t 50)⟩ (.q ⟨some 52, none, .bin .add (.t 51) (.c (.str [32, 105, 110, 32]))⟩ (.alt ⟨some 54, none, .call 65 [.t 53, .c (.int .i64 1)]⟩ [⟨some 45, none, .ld (.t 44)⟩] (.alt ⟨some 55, none, .call 22 [.t 54, .c (.int .i64 0)]⟩ [⟨some 45, none, .ld (.t 44)⟩] (.q ⟨some 56, none, .bin .add (.t 52) (.t 55)⟩ (.q ⟨some 2, none, .mv (.t 56)⟩ (.done))) (.stop)) (.stop)))) (.stop)) (.stop))))))))) .ret) (.seq (.reg [⟨some 58, none, .bin .eql (.t 6) (.c (.int .i64 22))⟩,
  ⟨some 57, none, .mv (.t 58)⟩]) (.kb [1, 6, 57] (.cond (.t 57) (.seq (.drw (.q ⟨some 59, none, .lda 7 (.t 1)⟩ (.q ⟨some 64, none, .lda 7 (.t 1)⟩ (.q ⟨some 69, none, .lda 7 (.t 1)⟩ (.alt ⟨some 60, none, .call 65 [.t 59, .c (.int .i64 0)]⟩ [⟨some 69, none, .lda 7 (.t 1)⟩, ⟨some 64, none, .lda 7 (.t 1)⟩] (.alt ⟨some 61, none, .call 22 [.t 60, .c (.int .i64 0)]⟩ [⟨some 69, none, .lda 7 (.t 1)⟩, ⟨some 64, none, .lda 7 (.t 1)⟩] (.q ⟨some 62, none, .bin .add (.c (.str [105, 102, 32])) (.t 61)⟩ (.q ⟨some 63, none, .bin .add (.t 62) (.c (.str [32, 116, 104, 101, 110, 32]))⟩ (.alt ⟨some 65, none, .call 65 [.t 64, .c (.int .i64 1)]⟩ [⟨some 69, none, .lda 7 (.t 1)⟩] (.alt ⟨some 66, none, .call 22 [.t 65, .c (.int .i64 0)]⟩ [⟨some 69, none, .lda 7 (.t 1)⟩] (.q ⟨some 67, none, .bin .add (.t 63) (.t 66)⟩ (.q ⟨some 68, none, .bin .add (.t 67) (.c (.str [32, 101, 108, 115, 101, 32]))⟩ (.alt ⟨some 70, none, .call 65 [.t 69, .c (.int .i64 2)]⟩ [] (.alt ⟨some 71, none, .call 22 [.t 70, .c (.int .i64 0)]⟩ [] (.q ⟨some 72, none, .bin .add (.t 68) (.t 71)⟩ (.q ⟨some 2, none, .mv (.t 72)⟩ (.done))) (.stop)) (.stop)))) (.stop)) (.stop)))) (.stop)) (.stop)))))) .ret) (.seq (.reg [⟨some 74, none, .bin .eql (.t 6) (.c (.int .i64 23))⟩,
  ⟨some 73, none, .mv (.t 74)⟩]) (.kb [1, 6, 73] (.cond (.t 73) (.seq (.drw (.q ⟨some 75, none, .lda 7 (.t 1)⟩ (.q ⟨some 80, none, .lda 7 (.t 1)⟩ (.alt ⟨some 76, none, .call 65 [.t 75, .c (.int .i64 0)]⟩ [⟨some 80, none, .lda 7 (.t 1)⟩] (.alt ⟨some 77, none, .call 22 [.t 76, .c (.int .i64 0)]⟩ [⟨some 80, none, .lda 7 (.t 1)⟩] (.q ⟨some 78, none, .bin .add (.c (.str [97, 115, 115, 101, 114, 116, 32])) (.t 77)⟩ (.q ⟨some 79, none, .bin .add (.t 78) (.c (.str [32, 105, 110, 32]))⟩ (.alt ⟨some 81, none, .call 65 [.t 80, .c (.int .i64 1)]⟩ [] (.alt ⟨some 82, none, .call 22 [.t 81, .c (.int .i64 0)]⟩ [] (.q ⟨some 83, none, .bin .add (.t 79) (.t 82)⟩ (.q ⟨some 2, none, .mv (.t 83)⟩ (.done))) (.stop)) (.stop)))) (.stop)) (.stop))))) .ret) (.seq (.reg [⟨some 85, none, .bin .eql (.t 6) (.c (.int .i64 24))⟩,
  ⟨some 84, none, .mv (.t 85)⟩]) (.kb [1, 6, 84] (.cond (.t 84) (.seq (.reg [⟨some 86, none, .fa 4 (.t 1)⟩,
  ⟨some 87, none, .ld (.t 86)⟩,
  ⟨some 88, none, .call 64 [.t 87]⟩,
  ⟨some 89, none, .bin .add (.c (.str [103, 101, 116, 40])) (.t 88)⟩,
  ⟨some 90, none, .bin .add (.t 89) (.c (.str [41]))⟩,
  ⟨some 2, none, .mv (.t 90)⟩]) .ret) (.seq (.reg [⟨some 92, none, .bin .eql (.t 6) (.c (.int .i64 25))⟩,
  ⟨some 91, none, .mv (.t 92)⟩]) (.kb [1, 6, 91] (.cond (.t 91) (.seq (.reg [⟨some 93, none, .fa 4 (.t 1)⟩,
  ⟨some 94, none, .ld (.t 93)⟩,
  ⟨some 95, none, .call 64 [.t 94]⟩,
  ⟨some 96, none, .bin .add (.c (.str [115, 101, 116, 40])) (.t 95)⟩,
  ⟨some 97, none, .bin .add (.t 96) (.c (.str [41]))⟩,
  ⟨some 2, none, .mv (.t 97)⟩]) .ret) (.seq (.reg [⟨some 99, none, .bin .eql (.t 6) (.c (.int .i64 26))⟩,
  ⟨some 98, none, .mv (.t 99)⟩]) (.kb [1, 6, 98] (.cond (.t 98) (.seq (.reg [⟨some 100, none, .fa 4 (.t 1)⟩,
  ⟨some 101, none, .ld (.t 100)⟩,
  ⟨some 102, none, .call 64 [.t 101]⟩,
  ⟨some 103, none, .bin .add (.c (.str [108, 101, 110, 40])) (.t 102)⟩,
  ⟨some 104, none, .bin .add (.t 103) (.c (.str [41]))⟩,
  ⟨some 2, none, .mv (.t 104)⟩]) .ret) (.seq (.reg [⟨some 106, none, .bin .eql (.t 6) (.c (.int .i64 27))⟩,
  ⟨some 105, none, .mv (.t 106)⟩]) (.kb [1, 105] (.cond (.t 105) (.seq (.drw (.q ⟨some 107, none, .fa 2 (.t 1)⟩ (.q ⟨some 108, none, .lda 2 (.t 107)⟩ (.q ⟨some 112, none, .lda 7 (.t 1)⟩ (.alt ⟨some 109, none, .call 23 [.t 108]⟩ [⟨some 112, none, .lda 7 (.t 1)⟩] (.q ⟨some 110, none, .bin .add (.c (.str [102, 105, 108, 108, 40])) (.t 109)⟩ (.q ⟨some 111, none, .bin .add (.t 110) (.c (.str [44, 32]))⟩ (.alt ⟨some 113, none, .call 65 [.t 112, .c (.int .i64 0)]⟩ [] (.alt ⟨some 114, none, .call 22 [.t 113, .c (.int .i64 0)]⟩ [] (.q ⟨some 115, none, .bin .add (.t 111) (.t 114)⟩ (.q ⟨some 116, none, .bin .add (.t 115) (.c (.str [41]))⟩ (.q ⟨some 2, none, .mv (.t 116)⟩ (.done)))) (.stop)) (.stop)))) (.stop)))))) .ret) .skip))))))))))))))))))))))))))))))))))))))))))))) (.kb [1] (.seq (.reg [⟨some 117, none, .fa 0 (.t 1)⟩,
  ⟨some 118, none, .ld (.t 117)⟩,
  ⟨some 119, none, .call 41 [.t 118]⟩,
  ⟨some 3, none, .mv (.t 119)⟩]) (.kb [1, 3] (.seq (.reg [⟨some 120, none, .mv (.t 3)⟩,
  ⟨some 4, none, .mv (.t 120)⟩]) (.kb [1, 3, 4] (.seq (.seq (.reg [⟨some 121, none, .mv (.t 3)⟩,
  ⟨some 122, none, .bin .eql (.t 121) (.c (.int .i64 3))⟩]) (.kb [1, 3, 4, 122] (.cond (.t 122) (.reg [⟨some 123, none, .mv (.t 3)⟩,
  ⟨some 124, none, .bin .add (.t 123) (.c (.int .i64 1))⟩,
  ⟨some 4, none, .mv (.t 124)⟩]) .skip))) (.kb [1, 3, 4] (.seq (.drw (.q ⟨some 125, none, .lda 7 (.t 1)⟩ (.q ⟨some 127, none, .mv (.t 4)⟩ (.q ⟨some 130, none, .fa 0 (.t 1)⟩ (.q ⟨some 131, none, .ld (.t 130)⟩ (.q ⟨some 135, none, .lda 7 (.t 1)⟩ (.q ⟨some 137, none, .mv (.t 3)⟩ (.q ⟨some 138, none, .bin .add (.t 137) (.c (.int .i64 1))⟩ (.alt ⟨some 126, none, .call 65 [.t 125, .c (.int .i64 0)]⟩ [⟨some 135, none, .lda 7 (.t 1)⟩, ⟨some 131, none, .ld (.t 130)⟩] (.alt ⟨some 128, none, .call 22 [.t 126, .t 127]⟩ [⟨some 135, none, .lda 7 (.t 1)⟩, ⟨some 131, none, .ld (.t 130)⟩] (.q ⟨some 129, none, .bin .add (.t 128) (.c (.str [32]))⟩ (.alt ⟨some 132, none, .call 66 [.t 131]⟩ [⟨some 135, none, .lda 7 (.t 1)⟩] (.q ⟨some 133, none, .bin .add (.t 129) (.t 132)⟩ (.q ⟨some 134, none, .bin .add (.t 133) (.c (.str [32]))⟩ (.alt ⟨some 136, none, .call 65 [.t 135, .c (.int .i64 1)]⟩ [] (.alt ⟨some 139, none, .call 22 [.t 136, .t 138]⟩ [] (.q ⟨some 140, none, .bin .add (.t 134) (.t 139)⟩ (.q ⟨some 2, none, .mv (.t 140)⟩ (.done))) (.stop)) (.stop)))) (.stop))) (.stop)) (.stop)))))))))) .ret))))))))))
def f40 : FD := ⟨141, [.t 2], d40, .all⟩
theorem ok40 : compF planOf Tryd.prog 40 = some ⟨141, [.t 2], d40.er⟩ := by kernel_rfl
def d41 : D := .seq (.reg [⟨some 2, none, .mv (.c (.int .i64 0))⟩]) (.kb [0] (.seq (.seq (.reg [⟨some 3, none, .mv (.t 0)⟩]) (.kb [3] (.block 0 (.seq (.seq (.reg [⟨some 5, none, .bin .eql (.t 3) (.c (.int .i64 21))⟩,
  ⟨some 4, none, .mv (.t 5)⟩]) (.kb [3, 4] (.cond (.t 4) .skip (.seq (.reg [⟨some 6, none, .bin .eql (.t 3) (.c (.int .i64 22))⟩,
  ⟨some 4, none, .mv (.t 6)⟩]) (.kb [3, 4] (.cond (.t 4) .skip (.reg [⟨some 7, none, .bin .eql (.t 3) (.c (.int .i64 23))⟩,
  ⟨some 4, none, .mv (.t 7)⟩]))))))) (.kb [3, 4] (.cond (.t 4) (.seq (.reg [⟨some 2, none, .mv (.c (.int .i64 0))⟩]) .ret) (.seq (.reg [⟨some 9, none, .bin .eql (.t 3) (.c (.int .i64 20))⟩,
  ⟨some 8, none, .mv (.t 9)⟩]) (.kb [3, 8] (.cond (.t 8) (.seq (.reg [⟨some 2, none, .mv (.c (.int .i64 1))⟩]) .ret) (.seq (.reg [⟨some 11, none, .bin .eql (.t 3) (.c (.int .i64 19))⟩,
  ⟨some 10, none, .mv (.t 11)⟩]) (.kb [3, 10] (.cond (.t 10) (.seq (.reg [⟨some 2, none, .mv (.c (.int .i64 2))⟩]) .ret) (.seq (.seq (.reg [⟨some 13, none, .bin .eql (.t 3) (.c (.int .i64 13))⟩,
  ⟨some 12, none, .mv (.t 13)⟩]) (.kb [3, 12] (.cond (.t 12) .skip (.seq (.reg [⟨some 14, none, .bin .eql (.t 3) (.c (.int .i64 14))⟩,
  ⟨some 12, none, .mv (.t 14)⟩]) (.kb [3, 12] (.cond (.t 12) .skip (.seq (.reg [⟨some 15, none, .bin .eql (.t 3) (.c (.int .i64 15))⟩,
  ⟨some 12, none, .mv (.t 15)⟩]) (.kb [3, 12] (.cond (.t 12) .skip (.seq (.reg [⟨some 16, none, .bin .eql (.t 3) (.c (.int .i64 16))⟩,
  ⟨some 12, none, .mv (.t 16)⟩]) (.kb [3, 12] (.cond (.t 12) .skip (.seq (.reg [⟨some 17, none, .bin .eql (.t 3) (.c (.int .i64 17))⟩,
  ⟨some 12, none, .mv (.t 17)⟩]) (.kb [3, 12] (.cond (.t 12) .skip (.reg [⟨some 18, none, .bin .eql (.t 3) (.c (.int .i64 18))⟩,
  ⟨some 12, none, .mv (.t 18)⟩])))))))))))))))) (.kb [3, 12] (.cond (.t 12) (.seq (.reg [⟨some 2, none, .mv (.c (.int .i64 3))⟩]) .ret) (.seq (.seq (.reg [⟨some 20, none, .bin .eql (.t 3) (.c (.int .i64 8))⟩,
  ⟨some 19, none, .mv (.t 20)⟩]) (.kb [3, 19] (.cond (.t 19) .skip (.reg [⟨some 21, none, .bin .eql (.t 3) (.c (.int .i64 9))⟩,
  ⟨some 19, none, .mv (.t 21)⟩])))) (.kb [3, 19] (.cond (.t 19) (.seq (.reg [⟨some 2, none, .mv (.c (.int .i64 4))⟩]) .ret) (.seq (.seq (.reg [⟨some 23, none, .bin .eql (.t 3) (.c (.int .i64 10))⟩,
  ⟨some 22, none, .mv (.t 23)⟩]) (.kb [3, 22] (.cond (.t 22) .skip (.seq (.reg [⟨some 24, none, .bin .eql (.t 3) (.c (.int .i64 11))⟩,
  ⟨some 22, none, .mv (.t 24)⟩]) (.kb [3, 22] (.cond (.t 22) .skip (.reg [⟨some 25, none, .bin .eql (.t 3) (.c (.int .i64 12))⟩,
  ⟨some 22, none, .mv (.t 25)⟩]))))))) (.kb [3, 22] (.cond (.t 22) (.seq (.reg [⟨some 2, none, .mv (.c (.int .i64 5))⟩]) .ret) (.seq (.seq (.reg [⟨some 27, none, .bin .eql (.t 3) (.c (.int .i64 6))⟩,
  ⟨some 26, none, .mv (.t 27)⟩]) (.kb [3, 26] (.cond (.t 26) .skip (.reg [⟨some 28, none, .bin .eql (.t 3) (.c (.int .i64 7))⟩,
  ⟨some 26, none, .mv (.t 28)⟩])))) (.kb [26] (.cond (.t 26) (.seq (.reg [⟨some 2, none, .mv (.c (.int .i64 6))⟩]) .ret) .skip)))))))))))))))))))))))) (.kb [] (.seq (.reg [⟨some 2, none, .mv (.c (.int .i64 7))⟩]) .ret))))
def f41 : FD := ⟨29, [.t 2], d41, .all⟩
theorem ok41 : compF planOf Tryd.prog 41 = some ⟨29, [.t 2], d41.er⟩ := by kernel_rfl
def b42_0 : D := .seq (.seq (.reg [⟨some 13, none, .mv (.t 3)⟩,
  ⟨some 14, none, .llen (.t 13)⟩,
  ⟨some 15, none, .bin .gtr (.t 14) (.c (.int .i64 0))⟩]) (.kb [3, 4, 15] (.cond (.t 15) .skip (.exit 0)))) (.kb [3, 4] (.block 1 (.seq (.reg [⟨some 5, none, .mv (.c (.int .u32 0))⟩]) (.kb [3, 4] (.seq (.reg [⟨some 17, none, .mv (.t 3)⟩,
  ⟨some 18, none, .call 68 [.t 17, .c (.int .u32 10)]⟩,
  ⟨some 16, none, .mv (.t 18)⟩,
  ⟨some 19, none, .ext (.t 16) 0⟩,
  ⟨some 20, none, .ext (.t 16) 1⟩,
  ⟨some 3, none, .mv (.t 19)⟩,
  ⟨some 5, none, .mv (.t 20)⟩]) (.kb [3, 4, 5] (.reg [⟨some 21, none, .mv (.t 4)⟩,
  ⟨some 22, none, .mv (.t 5)⟩,
  ⟨some 23, none, .bin .add (.c (.int .u32 48)) (.t 22)⟩,
  ⟨some 24, none, .cvi .u8 (.t 23)⟩,
  ⟨some 25, none, .bslice [.int .u8 0] 1 [(0, .t 24)]⟩,
  ⟨some 26, none, .app 1 1 (.t 21) (.t 25)⟩,
  ⟨some 4, none, .mv (.t 26)⟩])))))))
def b42_1 : D := .seq (.seq (.reg [⟨some 30, none, .mv (.t 6)⟩,
  ⟨some 31, none, .mv (.t 7)⟩,
  ⟨some 32, none, .bin .lss (.t 30) (.t 31)⟩]) (.kb [4, 6, 7, 32] (.cond (.t 32) .skip (.exit 2)))) (.kb [4, 6, 7] (.seq (.block 3 (.drw (.q ⟨some 37, none, .mv (.t 4)⟩ (.q ⟨some 38, none, .mv (.t 6)⟩ (.q ⟨some 39, none, .mv (.t 4)⟩ (.q ⟨some 40, none, .mv (.t 7)⟩ (.q ⟨some 41, none, .mv (.t 4)⟩ (.q ⟨some 42, none, .mv (.t 7)⟩ (.q ⟨some 43, none, .ia 1 (.t 41) (.t 42)⟩ (.q ⟨some 44, none, .ld (.t 43)⟩ (.q ⟨some 45, none, .mv (.t 4)⟩ (.q ⟨some 46, none, .mv (.t 6)⟩ (.q ⟨some 47, none, .ia 1 (.t 45) (.t 46)⟩ (.q ⟨some 48, none, .ld (.t 47)⟩ (.q ⟨some 49, none, .ia 1 (.t 37) (.t 38)⟩ (.alt ⟨none, none, .st 1 (.t 49) (.t 44)⟩ [] (.q ⟨some 50, none, .ia 1 (.t 39) (.t 40)⟩ (.alt ⟨none, none, .st 1 (.t 50) (.t 48)⟩ [] (.done) (.stop))) (.stop))))))))))))))))) (.kb [4, 6, 7] (.reg [⟨some 33, none, .mv (.t 6)⟩,
  ⟨some 34, none, .bin .add (.t 33) (.c (.int .i64 1))⟩,
  ⟨some 35, none, .mv (.t 7)⟩,
  ⟨some 36, none, .bin .sub (.t 35) (.c (.int .i64 1))⟩,
  ⟨some 6, none, .mv (.t 34)⟩,
  ⟨some 7, none, .mv (.t 36)⟩]))))
def d42 : D := .seq (.reg [⟨some 2, none, .mv (.c (.str []))⟩]) (.kb [0] (.seq (.reg [⟨some 8, none, .mv (.t 0)⟩,
  ⟨some 9, none, .call 67 [.t 8]⟩,
  ⟨some 3, none, .mv (.t 9)⟩]) (.kb [3] (.seq (.seq (.reg [⟨some 10, none, .mv (.t 3)⟩,
  ⟨some 11, none, .llen (.t 10)⟩,
  ⟨some 12, none, .bin .eql (.t 11) (.c (.int .i64 0))⟩]) (.kb [3, 12] (.cond (.t 12) (.seq (.reg [⟨some 2, none, .mv (.c (.str [48]))⟩]) .ret) .skip))) (.kb [3] (.seq (.reg [⟨some 4, none, .mv (.c (.nils))⟩]) (.kb [3, 4] (.seq (.block 0 (.loop [3, 4] b42_0)) (.kb [4] (.seq (.seq (.reg [⟨some 27, none, .mv (.t 4)⟩,
  ⟨some 28, none, .llen (.t 27)⟩,
  ⟨some 29, none, .bin .sub (.t 28) (.c (.int .i64 1))⟩,
  ⟨some 6, none, .mv (.c (.int .i64 0))⟩,
  ⟨some 7, none, .mv (.t 29)⟩]) (.kb [4, 6, 7] (.block 2 (.loop [4, 6, 7] b42_1)))) (.kb [4] (.seq (.reg [⟨some 51, none, .mv (.t 4)⟩,
  ⟨some 52, none, .b2s (.t 51)⟩,
  ⟨some 2, none, .mv (.t 52)⟩]) .ret))))))))))))
def f42 : FD := ⟨53, [.t 2], d42, .all⟩
theorem ok42 : compF planOf Tryd.prog 42 = some ⟨53, [.t 2], d42.er⟩ := by kernel_rfl
def d43 : D := .seq (.reg [⟨some 4, none, .new [.bool false, .nils]⟩]) (.kb [0, 1, 4] (.seq (.reg [⟨some 6, none, .mv (.t 1)⟩,
  ⟨some 7, none, .call 67 [.t 6]⟩,
  ⟨some 5, none, .mv (.t 7)⟩]) (.kb [0, 4, 5] (.seq (.seq (.reg [⟨some 8, none, .mv (.t 5)⟩,
  ⟨some 9, none, .llen (.t 8)⟩,
  ⟨some 10, none, .bin .eql (.t 9) (.c (.int .i64 0))⟩]) (.kb [0, 4, 5, 10] (.cond (.t 10) (.seq (.reg [⟨some 11, none, .build [.bool false, .nils] []⟩,
  ⟨none, none, .st 2 (.t 4) (.t 11)⟩]) .ret) .skip))) (.kb [0, 4, 5] (.seq (.reg [⟨some 12, none, .mv (.t 0)⟩,
  ⟨some 13, none, .mv (.t 5)⟩,
  ⟨some 14, none, .build [.bool false, .nils] [(0, 1, .t 12), (1, 1, .t 13)]⟩,
  ⟨none, none, .st 2 (.t 4) (.t 14)⟩]) .ret))))))
def f43 : FD := ⟨15, [.c 4 (some 2)], d43, .all⟩
theorem ok43 : compF planOf Tryd.prog 43 = some ⟨15, [.c 4 (some 2)], d43.er⟩ := by kernel_rfl
def d44 : D := .seq (.reg [⟨some 4, none, .mv (.c (.bool false))⟩]) (.kb [0, 1] (.seq (.reg [⟨some 5, none, .mv (.t 0)⟩,
  ⟨some 6, none, .mv (.t 1)⟩,
  ⟨some 7, none, .ia 1 (.t 5) (.t 6)⟩,
  ⟨some 8, none, .ld (.t 7)⟩,
  ⟨some 9, none, .bin .eql (.t 8) (.c (.int .u8 47))⟩,
  ⟨some 10, none, .mv (.t 9)⟩,
  ⟨some 11, some (10, true), .mv (.t 1)⟩,
  ⟨some 12, some (10, true), .bin .add (.t 11) (.c (.int .i64 1))⟩,
  ⟨some 13, some (10, true), .mv (.t 0)⟩,
  ⟨some 14, some (10, true), .llen (.t 13)⟩,
  ⟨some 15, some (10, true), .bin .lss (.t 12) (.t 14)⟩,
  ⟨some 16, none, .pick (.t 10) (.t 15) (.c (.bool false))⟩,
  ⟨some 17, none, .mv (.t 16)⟩,
  ⟨some 18, some (17, true), .mv (.t 0)⟩,
  ⟨some 19, some (17, true), .mv (.t 1)⟩,
  ⟨some 20, some (17, true), .bin .add (.t 19) (.c (.int .i64 1))⟩,
  ⟨some 21, some (17, true), .ia 1 (.t 18) (.t 20)⟩,
  ⟨some 22, some (17, true), .ld (.t 21)⟩,
  ⟨some 23, some (17, true), .bin .eql (.t 22) (.c (.int .u8 47))⟩,
  ⟨some 24, none, .pick (.t 17) (.t 23) (.c (.bool false))⟩,
  ⟨some 4, none, .mv (.t 24)⟩]) .ret))
def f44 : FD := ⟨25, [.t 4], d44, .all⟩
theorem ok44 : compF planOf Tryd.prog 44 = some ⟨25, [.t 4], d44.er⟩ := by kernel_rfl
def d45 : D := .seq (.reg [⟨some 2, none, .mv (.c (.bool false))⟩]) (.kb [0] (.seq (.reg [⟨some 3, none, .mv (.t 0)⟩,
  ⟨some 4, none, .bin .geq (.t 3) (.c (.int .u8 97))⟩,
  ⟨some 5, none, .mv (.t 4)⟩,
  ⟨some 6, some (5, true), .mv (.t 0)⟩,
  ⟨some 7, some (5, true), .bin .leq (.t 6) (.c (.int .u8 122))⟩,
  ⟨some 8, none, .pick (.t 5) (.t 7) (.c (.bool false))⟩,
  ⟨some 2, none, .mv (.t 8)⟩]) .ret))
def f45 : FD := ⟨9, [.t 2], d45, .all⟩
theorem ok45 : compF planOf Tryd.prog 45 = some ⟨9, [.t 2], d45.er⟩ := by kernel_rfl
def d46 : D := .seq (.reg [⟨some 2, none, .mv (.c (.bool false))⟩]) (.kb [0] (.seq (.reg [⟨some 3, none, .mv (.t 0)⟩,
  ⟨some 4, none, .bin .geq (.t 3) (.c (.int .u8 48))⟩,
  ⟨some 5, none, .mv (.t 4)⟩,
  ⟨some 6, some (5, true), .mv (.t 0)⟩,
  ⟨some 7, some (5, true), .bin .leq (.t 6) (.c (.int .u8 57))⟩,
  ⟨some 8, none, .pick (.t 5) (.t 7) (.c (.bool false))⟩,
  ⟨some 2, none, .mv (.t 8)⟩]) .ret))
def f46 : FD := ⟨9, [.t 2], d46, .all⟩
theorem ok46 : compF planOf Tryd.prog 46 = some ⟨9, [.t 2], d46.er⟩ := by kernel_rfl
def d47 : D := .seq (.reg [⟨some 2, none, .mv (.c (.bool false))⟩]) (.kb [0] (.seq (.seq (.reg [⟨some 3, none, .mv (.t 0)⟩]) (.kb [3] (.block 0 (.seq (.seq (.reg [⟨some 5, none, .bin .eql (.t 3) (.c (.str [102, 110]))⟩,
  ⟨some 4, none, .mv (.t 5)⟩]) (.kb [3, 4] (.cond (.t 4) .skip (.seq (.reg [⟨some 6, none, .bin .eql (.t 3) (.c (.str [112, 117, 98]))⟩,
  ⟨some 4, none, .mv (.t 6)⟩]) (.kb [3, 4] (.cond (.t 4) .skip (.seq (.reg [⟨some 7, none, .bin .eql (.t 3) (.c (.str [113, 117, 97, 108]))⟩,
  ⟨some 4, none, .mv (.t 7)⟩]) (.kb [3, 4] (.cond (.t 4) .skip (.seq (.reg [⟨some 8, none, .bin .eql (.t 3) (.c (.str [108, 101, 116]))⟩,
  ⟨some 4, none, .mv (.t 8)⟩]) (.kb [3, 4] (.cond (.t 4) .skip (.seq (.reg [⟨some 9, none, .bin .eql (.t 3) (.c (.str [105, 110]))⟩,
  ⟨some 4, none, .mv (.t 9)⟩]) (.kb [3, 4] (.cond (.t 4) .skip (.seq (.reg [⟨some 10, none, .bin .eql (.t 3) (.c (.str [105, 102]))⟩,
  ⟨some 4, none, .mv (.t 10)⟩]) (.kb [3, 4] (.cond (.t 4) .skip (.seq (.reg [⟨some 11, none, .bin .eql (.t 3) (.c (.str [116, 104, 101, 110]))⟩,
  ⟨some 4, none, .mv (.t 11)⟩]) (.kb [3, 4] (.cond (.t 4) .skip (.seq (.reg [⟨some 12, none, .bin .eql (.t 3) (.c (.str [101, 108, 115, 101]))⟩,
  ⟨some 4, none, .mv (.t 12)⟩]) (.kb [3, 4] (.cond (.t 4) .skip (.seq (.reg [⟨some 13, none, .bin .eql (.t 3) (.c (.str [97, 115, 115, 101, 114, 116]))⟩,
  ⟨some 4, none, .mv (.t 13)⟩]) (.kb [3, 4] (.cond (.t 4) .skip (.seq (.reg [⟨some 14, none, .bin .eql (.t 3) (.c (.str [116, 114, 117, 101]))⟩,
  ⟨some 4, none, .mv (.t 14)⟩]) (.kb [3, 4] (.cond (.t 4) .skip (.seq (.reg [⟨some 15, none, .bin .eql (.t 3) (.c (.str [102, 97, 108, 115, 101]))⟩,
  ⟨some 4, none, .mv (.t 15)⟩]) (.kb [3, 4] (.cond (.t 4) .skip (.seq (.reg [⟨some 16, none, .bin .eql (.t 3) (.c (.str [105, 110, 116]))⟩,
  ⟨some 4, none, .mv (.t 16)⟩]) (.kb [3, 4] (.cond (.t 4) .skip (.seq (.reg [⟨some 17, none, .bin .eql (.t 3) (.c (.str [98, 111, 111, 108]))⟩,
  ⟨some 4, none, .mv (.t 17)⟩]) (.kb [3, 4] (.cond (.t 4) .skip (.seq (.reg [⟨some 18, none, .bin .eql (.t 3) (.c (.str [97, 114, 114]))⟩,
  ⟨some 4, none, .mv (.t 18)⟩]) (.kb [3, 4] (.cond (.t 4) .skip (.seq (.reg [⟨some 19, none, .bin .eql (.t 3) (.c (.str [103, 101, 116]))⟩,
  ⟨some 4, none, .mv (.t 19)⟩]) (.kb [3, 4] (.cond (.t 4) .skip (.seq (.reg [⟨some 20, none, .bin .eql (.t 3) (.c (.str [115, 101, 116]))⟩,
  ⟨some 4, none, .mv (.t 20)⟩]) (.kb [3, 4] (.cond (.t 4) .skip (.seq (.reg [⟨some 21, none, .bin .eql (.t 3) (.c (.str [108, 101, 110]))⟩,
  ⟨some 4, none, .mv (.t 21)⟩]) (.kb [3, 4] (.cond (.t 4) .skip (.seq (.reg [⟨some 22, none, .bin .eql (.t 3) (.c (.str [102, 105, 108, 108]))⟩,
  ⟨some 4, none, .mv (.t 22)⟩]) (.kb [3, 4] (.cond (.t 4) .skip (.seq (.reg [⟨some 23, none, .bin .eql (.t 3) (.c (.str [110, 111, 116]))⟩,
  ⟨some 4, none, .mv (.t 23)⟩]) (.kb [3, 4] (.cond (.t 4) .skip (.seq (.reg [⟨some 24, none, .bin .eql (.t 3) (.c (.str [97, 110, 100]))⟩,
  ⟨some 4, none, .mv (.t 24)⟩]) (.kb [3, 4] (.cond (.t 4) .skip (.seq (.reg [⟨some 25, none, .bin .eql (.t 3) (.c (.str [111, 114]))⟩,
  ⟨some 4, none, .mv (.t 25)⟩]) (.kb [3, 4] (.cond (.t 4) .skip (.reg [⟨some 26, none, .bin .eql (.t 3) (.c (.str [118]))⟩,
  ⟨some 4, none, .mv (.t 26)⟩])))))))))))))))))))))))))))))))))))))))))))))))))))))))))))))))) (.kb [4] (.cond (.t 4) (.seq (.reg [⟨some 2, none, .mv (.c (.bool true))⟩]) .ret) .skip)))))) (.kb [] (.seq (.reg [⟨some 2, none, .mv (.c (.bool false))⟩]) .ret))))
def f47 : FD := ⟨27, [.t 2], d47, .all⟩
theorem ok47 : compF planOf Tryd.prog 47 = some ⟨27, [.t 2], d47.er⟩ := by kernel_rfl
def d48 : D := .seq (.reg [⟨some 4, none, .mv (.c (.int .i64 0))⟩]) (.kb [0, 1] (.seq (.seq (.reg [⟨some 5, none, .mv (.t 1)⟩,
  ⟨some 6, none, .bin .add (.t 5) (.c (.int .i64 1))⟩,
  ⟨some 7, none, .mv (.t 0)⟩,
  ⟨some 8, none, .llen (.t 7)⟩,
  ⟨some 9, none, .bin .lss (.t 6) (.t 8)⟩]) (.kb [0, 1, 9] (.cond (.t 9) (.seq (.reg [⟨some 10, none, .mv (.t 0)⟩,
  ⟨some 11, none, .mv (.t 1)⟩,
  ⟨some 12, none, .mv (.t 1)⟩,
  ⟨some 13, none, .bin .add (.t 12) (.c (.int .i64 2))⟩,
  ⟨some 14, none, .lsl 1 (.t 10) (some (.t 11)) (some (.t 13))⟩,
  ⟨some 15, none, .b2s (.t 14)⟩]) (.kb [0, 1, 15] (.block 0 (.seq (.seq (.reg [⟨some 17, none, .bin .eql (.t 15) (.c (.str [45, 62]))⟩,
  ⟨some 16, none, .mv (.t 17)⟩]) (.kb [0, 1, 15, 16] (.cond (.t 16) .skip (.seq (.reg [⟨some 18, none, .bin .eql (.t 15) (.c (.str [60, 61]))⟩,
  ⟨some 16, none, .mv (.t 18)⟩]) (.kb [0, 1, 15, 16] (.cond (.t 16) .skip (.seq (.reg [⟨some 19, none, .bin .eql (.t 15) (.c (.str [62, 61]))⟩,
  ⟨some 16, none, .mv (.t 19)⟩]) (.kb [0, 1, 15, 16] (.cond (.t 16) .skip (.reg [⟨some 20, none, .bin .eql (.t 15) (.c (.str [33, 61]))⟩,
  ⟨some 16, none, .mv (.t 20)⟩])))))))))) (.kb [0, 1, 16] (.cond (.t 16) (.seq (.reg [⟨some 4, none, .mv (.c (.int .i64 2))⟩]) .ret) .skip)))))) .skip))) (.kb [0, 1] (.seq (.seq (.reg [⟨some 21, none, .mv (.t 0)⟩,
  ⟨some 22, none, .mv (.t 1)⟩,
  ⟨some 23, none, .ia 1 (.t 21) (.t 22)⟩,
  ⟨some 24, none, .ld (.t 23)⟩]) (.kb [24] (.block 1 (.seq (.seq (.reg [⟨some 26, none, .bin .eql (.t 24) (.c (.int .u8 40))⟩,
  ⟨some 25, none, .mv (.t 26)⟩]) (.kb [24, 25] (.cond (.t 25) .skip (.seq (.reg [⟨some 27, none, .bin .eql (.t 24) (.c (.int .u8 41))⟩,
  ⟨some 25, none, .mv (.t 27)⟩]) (.kb [24, 25] (.cond (.t 25) .skip (.seq (.reg [⟨some 28, none, .bin .eql (.t 24) (.c (.int .u8 123))⟩,
  ⟨some 25, none, .mv (.t 28)⟩]) (.kb [24, 25] (.cond (.t 25) .skip (.seq (.reg [⟨some 29, none, .bin .eql (.t 24) (.c (.int .u8 125))⟩,
  ⟨some 25, none, .mv (.t 29)⟩]) (.kb [24, 25] (.cond (.t 25) .skip (.seq (.reg [⟨some 30, none, .bin .eql (.t 24) (.c (.int .u8 44))⟩,
  ⟨some 25, none, .mv (.t 30)⟩]) (.kb [24, 25] (.cond (.t 25) .skip (.seq (.reg [⟨some 31, none, .bin .eql (.t 24) (.c (.int .u8 58))⟩,
  ⟨some 25, none, .mv (.t 31)⟩]) (.kb [24, 25] (.cond (.t 25) .skip (.seq (.reg [⟨some 32, none, .bin .eql (.t 24) (.c (.int .u8 61))⟩,
  ⟨some 25, none, .mv (.t 32)⟩]) (.kb [24, 25] (.cond (.t 25) .skip (.seq (.reg [⟨some 33, none, .bin .eql (.t 24) (.c (.int .u8 59))⟩,
  ⟨some 25, none, .mv (.t 33)⟩]) (.kb [24, 25] (.cond (.t 25) .skip (.seq (.reg [⟨some 34, none, .bin .eql (.t 24) (.c (.int .u8 43))⟩,
  ⟨some 25, none, .mv (.t 34)⟩]) (.kb [24, 25] (.cond (.t 25) .skip (.seq (.reg [⟨some 35, none, .bin .eql (.t 24) (.c (.int .u8 45))⟩,
  ⟨some 25, none, .mv (.t 35)⟩]) (.kb [24, 25] (.cond (.t 25) .skip (.seq (.reg [⟨some 36, none, .bin .eql (.t 24) (.c (.int .u8 42))⟩,
  ⟨some 25, none, .mv (.t 36)⟩]) (.kb [24, 25] (.cond (.t 25) .skip (.seq (.reg [⟨some 37, none, .bin .eql (.t 24) (.c (.int .u8 47))⟩,
  ⟨some 25, none, .mv (.t 37)⟩]) (.kb [24, 25] (.cond (.t 25) .skip (.seq (.reg [⟨some 38, none, .bin .eql (.t 24) (.c (.int .u8 37))⟩,
  ⟨some 25, none, .mv (.t 38)⟩]) (.kb [24, 25] (.cond (.t 25) .skip (.seq (.reg [⟨some 39, none, .bin .eql (.t 24) (.c (.int .u8 60))⟩,
  ⟨some 25, none, .mv (.t 39)⟩]) (.kb [24, 25] (.cond (.t 25) .skip (.reg [⟨some 40, none, .bin .eql (.t 24) (.c (.int .u8 62))⟩,
  ⟨some 25, none, .mv (.t 40)⟩]))))))))))))))))))))))))))))))))))))))))))) (.kb [25] (.cond (.t 25) (.seq (.reg [⟨some 4, none, .mv (.c (.int .i64 1))⟩]) .ret) .skip)))))) (.kb [] (.seq (.reg [⟨some 4, none, .mv (.c (.int .i64 0))⟩]) .ret))))))
def f48 : FD := ⟨41, [.t 4], d48, .all⟩
theorem ok48 : compF planOf Tryd.prog 48 = some ⟨41, [.t 4], d48.er⟩ := by kernel_rfl
def d49 : D := .seq (.reg [⟨some 4, none, .mv (.c (.bool false))⟩]) (.kb [0, 1] (.seq (.reg [⟨some 6, none, .mv (.t 0)⟩,
  ⟨some 7, none, .call 32 [.t 6]⟩,
  ⟨some 5, none, .new [.int .i64 0, .str [], .int .i64 0, .int .i64 0]⟩,
  ⟨none, none, .st 4 (.t 5) (.t 7)⟩]) (.kb [1, 5] (.seq (.reg [⟨some 8, none, .fa 0 (.t 5)⟩,
  ⟨some 9, none, .ld (.t 8)⟩,
  ⟨some 10, none, .bin .eql (.t 9) (.c (.int .i64 2))⟩,
  ⟨some 11, none, .mv (.t 10)⟩,
  ⟨some 12, some (11, false), .fa 0 (.t 5)⟩,
  ⟨some 13, some (11, false), .ld (.t 12)⟩,
  ⟨some 14, some (11, false), .bin .eql (.t 13) (.c (.int .i64 4))⟩,
  ⟨some 15, none, .pick (.t 11) (.c (.bool true)) (.t 14)⟩,
  ⟨some 16, none, .mv (.t 15)⟩,
  ⟨some 17, some (16, true), .fa 1 (.t 5)⟩,
  ⟨some 18, some (16, true), .ld (.t 17)⟩,
  ⟨some 19, some (16, true), .mv (.t 1)⟩,
  ⟨some 20, some (16, true), .bin .eql (.t 18) (.t 19)⟩,
  ⟨some 21, none, .pick (.t 16) (.t 20) (.c (.bool false))⟩,
  ⟨some 4, none, .mv (.t 21)⟩]) .ret))))
def f49 : FD := ⟨22, [.t 4], d49, .all⟩
theorem ok49 : compF planOf Tryd.prog 49 = some ⟨22, [.t 4], d49.er⟩ := by kernel_rfl
def d50 : D := .seq (.reg [⟨some 2, none, .new [.int .i64 0, .str [], .int .i64 0, .int .i64 0]⟩]) (.kb [0, 2] (.seq (.seq (.reg [⟨some 3, none, .mv (.t 0)⟩,
  ⟨some 4, none, .call 32 [.t 3]⟩,
  ⟨some 5, none, .fld none 0 (.t 4)⟩,
  ⟨some 6, none, .bin .neq (.t 5) (.c (.int .i64 1))⟩]) (.kb [0, 2, 6] (.cond (.t 6) (.reg [⟨some 7, none, .mv (.t 0)⟩,
  ⟨some 8, none, .call 51 [.t 7]⟩]) .skip))) (.kb [0, 2] (.seq (.reg [⟨some 9, none, .mv (.t 0)⟩,
  ⟨some 10, none, .call 69 [.t 9]⟩,
  ⟨none, none, .st 4 (.t 2) (.t 10)⟩]) .ret))))
def f50 : FD := ⟨11, [.c 2 (some 4)], d50, .all⟩
theorem ok50 : compF planOf Tryd.prog 50 = some ⟨11, [.c 2 (some 4)], d50.er⟩ := by kernel_rfl
def d51 : D := .seq (.seq (.reg [⟨some 2, none, .mv (.t 0)⟩,
  ⟨some 3, none, .call 32 [.t 2]⟩,
  ⟨some 4, none, .fld none 0 (.t 3)⟩,
  ⟨some 5, none, .bin .eql (.t 4) (.c (.int .i64 0))⟩]) (.kb [0, 5] (.cond (.t 5) (.reg [⟨some 6, none, .mv (.t 0)⟩,
  ⟨some 7, none, .call 33 [.t 6, .c (.int .i64 11)]⟩]) .skip))) (.kb [0] (.reg [⟨some 8, none, .mv (.t 0)⟩,
  ⟨some 9, none, .call 33 [.t 8, .c (.int .i64 21)]⟩]))
def f51 : FD := ⟨10, [], d51, .all⟩
theorem ok51 : compF planOf Tryd.prog 51 = some ⟨10, [], d51.er⟩ := by kernel_rfl
def d52 : D := .seq (.reg [⟨some 2, none, .new [.int .i64 0, .int .i64 0, .nils, .int .i64 0, .int .i64 0]⟩]) (.kb [0, 2] (.seq (.reg [⟨some 5, none, .mv (.t 0)⟩,
  ⟨some 6, none, .call 32 [.t 5]⟩,
  ⟨some 7, none, .fld (some 2) 2 (.t 6)⟩,
  ⟨some 8, none, .fld none 0 (.t 7)⟩,
  ⟨some 3, none, .mv (.t 8)⟩]) (.kb [0, 2, 3] (.seq (.reg [⟨some 4, none, .new [.int .i64 0, .int .i64 0, .nils, .int .i64 0, .int .i64 0]⟩]) (.kb [0, 2, 3, 4] (.seq (.block 0 (.seq (.reg [⟨some 12, none, .mv (.t 0)⟩,
  ⟨some 13, none, .call 27 [.t 12, .c (.str [105, 110, 116])]⟩,
  ⟨some 11, none, .mv (.t 13)⟩]) (.kb [0, 2, 3, 4, 11] (.cond (.t 11) (.reg [⟨some 14, none, .fa 0 (.t 4)⟩,
  ⟨none, none, .st 1 (.t 14) (.c (.int .i64 1))⟩]) (.seq (.reg [⟨some 16, none, .mv (.t 0)⟩,
  ⟨some 17, none, .call 27 [.t 16, .c (.str [98, 111, 111, 108])]⟩,
  ⟨some 15, none, .mv (.t 17)⟩]) (.kb [0, 2, 3, 4, 15] (.cond (.t 15) (.reg [⟨some 18, none, .fa 0 (.t 4)⟩,
  ⟨none, none, .st 1 (.t 18) (.c (.int .i64 2))⟩]) (.seq (.reg [⟨some 20, none, .mv (.t 0)⟩,
  ⟨some 21, none, .call 27 [.t 20, .c (.str [97, 114, 114])]⟩,
  ⟨some 19, none, .mv (.t 21)⟩]) (.kb [0, 2, 3, 4, 19] (.cond (.t 19) (.seq (.reg [⟨some 22, none, .fa 0 (.t 4)⟩,
  ⟨none, none, .st 1 (.t 22) (.c (.int .i64 3))⟩]) (.kb [0, 2, 3, 4] (.reg [⟨some 23, none, .mv (.t 0)⟩,
  ⟨some 24, none, .call 70 [.t 23]⟩,
  ⟨some 25, none, .fa 1 (.t 4)⟩,
  ⟨none, none, .st 1 (.t 25) (.t 24)⟩]))) (.reg [⟨some 9, none, .mv (.t 0)⟩,
  ⟨some 10, none, .call 51 [.t 9]⟩]))))))))))) (.kb [0, 2, 3, 4] (.seq (.seq (.reg [⟨some 26, none, .mv (.t 0)⟩,
  ⟨some 27, none, .call 27 [.t 26, .c (.str [123])]⟩]) (.kb [0, 2, 3, 4, 27] (.cond (.t 27) (.seq (.reg [⟨some 28, none, .mv (.t 0)⟩,
  ⟨some 29, none, .call 31 [.t 28]⟩,
  ⟨some 30, none, .bslice [.int .i64 0, .str [], .bool false, .nils, .nils, .int .i64 0, .int .i64 0] 1 [(0, .t 29)]⟩,
  ⟨some 31, none, .fa 2 (.t 4)⟩,
  ⟨none, none, .st 1 (.t 31) (.t 30)⟩]) (.kb [0, 2, 3, 4] (.reg [⟨some 32, none, .mv (.t 0)⟩,
  ⟨some 33, none, .call 29 [.t 32, .c (.str [125])]⟩]))) .skip))) (.kb [0, 2, 3, 4] (.seq (.reg [⟨some 34, none, .mv (.t 0)⟩,
  ⟨some 35, none, .mv (.t 3)⟩,
  ⟨some 36, none, .call 56 [.t 34, .t 35]⟩,
  ⟨some 37, none, .fa 3 (.t 4)⟩,
  ⟨none, none, .st 2 (.t 37) (.t 36)⟩]) (.kb [2, 4] (.seq (.reg [⟨some 38, none, .lda 5 (.t 4)⟩,
  ⟨none, none, .st 5 (.t 2) (.t 38)⟩]) .ret))))))))))))
def f52 : FD := ⟨39, [.c 2 (some 5)], d52, .cut⟩
theorem ok52 : compF planOf Tryd.prog 52 = some ⟨39, [.c 2 (some 5)], d52.er⟩ := by kernel_rfl
def d53 : D := .seq (.reg [⟨some 2, none, .mv (.t 0)⟩,
  ⟨some 3, none, .nilck (.t 2)⟩,
  ⟨some 4, none, .fa 2 (.t 3)⟩,
  ⟨some 5, none, .ld (.t 4)⟩,
  ⟨some 6, none, .bin .add (.t 5) (.c (.int .i64 1))⟩,
  ⟨some 7, none, .nilck (.t 2)⟩,
  ⟨some 8, none, .fa 2 (.t 7)⟩,
  ⟨none, none, .st 1 (.t 8) (.t 6)⟩]) (.kb [0] (.seq (.reg [⟨some 9, none, .mv (.t 0)⟩,
  ⟨some 10, none, .nilck (.t 9)⟩,
  ⟨some 11, none, .fa 2 (.t 10)⟩,
  ⟨some 12, none, .ld (.t 11)⟩,
  ⟨some 13, none, .bin .gtr (.t 12) (.c (.int .i64 60))⟩]) (.kb [0, 13] (.cond (.t 13) (.reg [⟨some 14, none, .mv (.t 0)⟩,
  ⟨some 15, none, .call 33 [.t 14, .c (.int .i64 13)]⟩]) .skip))))
def f53 : FD := ⟨16, [], d53, .all⟩
theorem ok53 : compF planOf Tryd.prog 53 = some ⟨16, [], d53.er⟩ := by kernel_rfl
def d54 : D := .reg [⟨some 1, none, .ld (.t 0)⟩,
  ⟨some 2, none, .nilck (.t 1)⟩,
  ⟨some 3, none, .fa 2 (.t 2)⟩,
  ⟨some 4, none, .ld (.t 3)⟩,
  ⟨some 5, none, .bin .sub (.t 4) (.c (.int .i64 1))⟩,
  ⟨some 6, none, .nilck (.t 1)⟩,
  ⟨some 7, none, .fa 2 (.t 6)⟩,
  ⟨none, none, .st 1 (.t 7) (.t 5)⟩]
def f54 : FD := ⟨8, [], d54, .raw⟩
theorem ok54 : compF planOf Tryd.prog 54 = some ⟨8, [], d54.er⟩ := by kernel_rfl
def d55 : D := .seq (.reg [⟨some 8, none, .new [.int .i64 0, .str [], .bool false, .nils, .nils, .int .i64 0, .int .i64 0]⟩]) (.kb [0, 1, 2, 3, 8] (.seq (.reg [⟨some 9, none, .mv (.t 1)⟩,
  ⟨some 10, none, .mv (.t 3)⟩,
  ⟨some 11, none, .mv (.t 0)⟩,
  ⟨some 12, none, .mv (.t 2)⟩,
  ⟨some 13, none, .call 56 [.t 11, .t 12]⟩,
  ⟨some 14, none, .build [.int .i64 0, .str [], .bool false, .nils, .nils, .int .i64 0, .int .i64 0] [(0, 1, .t 9), (4, 1, .t 10), (5, 2, .t 13)]⟩,
  ⟨none, none, .st 7 (.t 8) (.t 14)⟩]) .ret))
def f55 : FD := ⟨15, [.c 8 (some 7)], d55, .all⟩
theorem ok55 : compF planOf Tryd.prog 55 = some ⟨15, [.c 8 (some 7)], d55.er⟩ := by kernel_rfl
def d56 : D := .seq (.reg [⟨some 4, none, .new [.int .i64 0, .int .i64 0]⟩]) (.kb [0, 1, 4] (.seq (.drw (.q ⟨some 5, none, .mv (.t 1)⟩ (.q ⟨some 6, none, .mv (.t 0)⟩ (.q ⟨some 7, none, .nilck (.t 6)⟩ (.q ⟨some 8, none, .fa 0 (.t 7)⟩ (.q ⟨some 9, none, .ld (.t 8)⟩ (.q ⟨some 10, none, .mv (.t 0)⟩ (.q ⟨some 11, none, .nilck (.t 10)⟩ (.q ⟨some 12, none, .fa 1 (.t 11)⟩ (.q ⟨some 13, none, .ld (.t 12)⟩ (.q ⟨some 14, none, .bin .sub (.t 13) (.c (.int .i64 1))⟩ (.q ⟨some 15, none, .ia 4 (.t 9) (.t 14)⟩ (.q ⟨some 16, none, .fa 2 (.t 15)⟩ (.q ⟨some 17, none, .fa 1 (.t 16)⟩ (.q ⟨some 18, none, .ld (.t 17)⟩ (.q ⟨some 19, none, .build [.int .i64 0, .int .i64 0] [(0, 1, .t 5), (1, 1, .t 18)]⟩ (.alt ⟨none, none, .st 2 (.t 4) (.t 19)⟩ [] (.done) (.stop)))))))))))))))))) .ret))
def f56 : FD := ⟨20, [.c 4 (some 2)], d56, .all⟩
theorem ok56 : compF planOf Tryd.prog 56 = some ⟨20, [.c 4 (some 2)], d56.er⟩ := by kernel_rfl
def b57_0 : D := .block 1 (.seq (.reg [⟨some 21, none, .mv (.t 1)⟩,
  ⟨some 22, none, .mv (.t 0)⟩,
  ⟨some 23, none, .call 32 [.t 22]⟩,
  ⟨some 24, none, .call 72 [.t 21, .t 23]⟩,
  ⟨some 7, none, .mv (.t 24)⟩]) (.kb [0, 1, 4, 5, 6, 7] (.seq (.seq (.reg [⟨some 25, none, .mv (.t 7)⟩,
  ⟨some 26, none, .bin .eql (.t 25) (.c (.int .i64 0))⟩]) (.kb [0, 1, 4, 5, 6, 7, 26] (.cond (.t 26) (.seq (.reg [⟨some 27, none, .lda 7 (.t 6)⟩,
  ⟨none, none, .st 7 (.t 4) (.t 27)⟩]) .ret) .skip))) (.kb [0, 1, 4, 5, 6, 7] (.seq (.reg [⟨some 28, none, .mv (.t 0)⟩,
  ⟨some 29, none, .nilck (.t 28)⟩,
  ⟨some 30, none, .fa 1 (.t 29)⟩,
  ⟨some 31, none, .ld (.t 30)⟩,
  ⟨some 32, none, .bin .add (.t 31) (.c (.int .i64 1))⟩,
  ⟨some 33, none, .nilck (.t 28)⟩,
  ⟨some 34, none, .fa 1 (.t 33)⟩,
  ⟨none, none, .st 1 (.t 34) (.t 32)⟩]) (.kb [0, 1, 4, 5, 6, 7] (.seq (.reg [⟨some 35, none, .mv (.t 0)⟩,
  ⟨some 36, none, .mv (.t 1)⟩,
  ⟨some 37, none, .bin .add (.t 36) (.c (.int .i64 1))⟩,
  ⟨some 38, none, .call 57 [.t 35, .t 37]⟩,
  ⟨some 8, none, .new [.int .i64 0, .str [], .bool false, .nils, .nils, .int .i64 0, .int .i64 0]⟩,
  ⟨none, none, .st 7 (.t 8) (.t 38)⟩]) (.kb [0, 1, 4, 5, 6, 7, 8] (.seq (.reg [⟨some 39, none, .mv (.t 0)⟩,
  ⟨some 40, none, .mv (.t 7)⟩,
  ⟨some 41, none, .mv (.t 5)⟩,
  ⟨some 42, none, .lda 7 (.t 6)⟩,
  ⟨some 43, none, .lda 7 (.t 8)⟩,
  ⟨some 44, none, .bslice [.int .i64 0, .str [], .bool false, .nils, .nils, .int .i64 0, .int .i64 0] 2 [(0, .t 42), (1, .t 43)]⟩,
  ⟨some 45, none, .call 55 [.t 39, .t 40, .t 41, .t 44]⟩,
  ⟨none, none, .st 7 (.t 6) (.t 45)⟩]) (.kb [0, 1, 4, 5, 6] (.seq (.reg [⟨some 46, none, .mv (.t 1)⟩,
  ⟨some 47, none, .bin .eql (.t 46) (.c (.int .i64 2))⟩]) (.kb [0, 1, 4, 5, 6, 47] (.cond (.t 47) (.seq (.reg [⟨some 48, none, .lda 7 (.t 6)⟩,
  ⟨none, none, .st 7 (.t 4) (.t 48)⟩]) .ret) .skip)))))))))))))
def d57 : D := .seq (.reg [⟨some 4, none, .new [.int .i64 0, .str [], .bool false, .nils, .nils, .int .i64 0, .int .i64 0]⟩]) (.kb [0, 1, 4] (.seq (.seq (.reg [⟨some 9, none, .mv (.t 1)⟩,
  ⟨some 10, none, .bin .eql (.t 9) (.c (.int .i64 5))⟩]) (.kb [0, 1, 4, 10] (.cond (.t 10) (.seq (.reg [⟨some 11, none, .mv (.t 0)⟩,
  ⟨some 12, none, .call 71 [.t 11]⟩,
  ⟨none, none, .st 7 (.t 4) (.t 12)⟩]) .ret) .skip))) (.kb [0, 1, 4] (.seq (.reg [⟨some 13, none, .mv (.t 0)⟩,
  ⟨some 14, none, .call 32 [.t 13]⟩,
  ⟨some 15, none, .fld (some 2) 2 (.t 14)⟩,
  ⟨some 16, none, .fld none 0 (.t 15)⟩,
  ⟨some 5, none, .mv (.t 16)⟩]) (.kb [0, 1, 4, 5] (.seq (.reg [⟨some 17, none, .mv (.t 0)⟩,
  ⟨some 18, none, .mv (.t 1)⟩,
  ⟨some 19, none, .bin .add (.t 18) (.c (.int .i64 1))⟩,
  ⟨some 20, none, .call 57 [.t 17, .t 19]⟩,
  ⟨some 6, none, .new [.int .i64 0, .str [], .bool false, .nils, .nils, .int .i64 0, .int .i64 0]⟩,
  ⟨none, none, .st 7 (.t 6) (.t 20)⟩]) (.kb [0, 1, 4, 5, 6] (.block 0 (.loop [0, 1, 4, 5, 6] b57_0)))))))))
def f57 : FD := ⟨49, [.c 4 (some 7)], d57, .cut⟩
theorem ok57 : compF planOf Tryd.prog 57 = some ⟨49, [.c 4 (some 7)], d57.er⟩ := by kernel_rfl
def d61 : D := .seq (.reg [⟨some 2, none, .mv (.c (.bool false))⟩]) (.kb [0] (.seq (.reg [⟨some 3, none, .mv (.t 0)⟩,
  ⟨some 4, none, .call 62 [.t 3]⟩,
  ⟨some 5, none, .llen (.t 4)⟩,
  ⟨some 6, none, .bin .eql (.t 5) (.c (.int .i64 0))⟩,
  ⟨some 2, none, .mv (.t 6)⟩]) .ret))
def f61 : FD := ⟨7, [.t 2], d61, .all⟩
theorem ok61 : compF planOf Tryd.prog 61 = some ⟨7, [.t 2], d61.er⟩ := by kernel_rfl
def b62_0 : D := .seq (.seq (.reg [⟨some 6, none, .mv (.t 3)⟩,
  ⟨some 7, none, .bin .gtr (.t 6) (.c (.int .i64 0))⟩,
  ⟨some 8, none, .mv (.t 7)⟩,
  ⟨some 9, some (8, true), .mv (.t 0)⟩,
  ⟨some 10, some (8, true), .mv (.t 3)⟩,
  ⟨some 11, some (8, true), .bin .sub (.t 10) (.c (.int .i64 1))⟩,
  ⟨some 12, some (8, true), .ia 1 (.t 9) (.t 11)⟩,
  ⟨some 13, some (8, true), .ld (.t 12)⟩,
  ⟨some 14, some (8, true), .bin .eql (.t 13) (.c (.int .u32 0))⟩,
  ⟨some 15, none, .pick (.t 8) (.t 14) (.c (.bool false))⟩]) (.kb [0, 3, 15] (.cond (.t 15) .skip (.exit 0)))) (.kb [0, 3] (.block 1 (.reg [⟨some 16, none, .mv (.t 3)⟩,
  ⟨some 17, none, .bin .sub (.t 16) (.c (.int .i64 1))⟩,
  ⟨some 3, none, .mv (.t 17)⟩])))
def d62 : D := .seq (.reg [⟨some 2, none, .mv (.c (.nils))⟩]) (.kb [0] (.seq (.reg [⟨some 4, none, .mv (.t 0)⟩,
  ⟨some 5, none, .llen (.t 4)⟩,
  ⟨some 3, none, .mv (.t 5)⟩]) (.kb [0, 3] (.seq (.block 0 (.loop [0, 3] b62_0)) (.kb [0, 3] (.seq (.reg [⟨some 18, none, .mv (.t 0)⟩,
  ⟨some 19, none, .mv (.t 3)⟩,
  ⟨some 20, none, .lsl 1 (.t 18) none (some (.t 19))⟩,
  ⟨some 2, none, .mv (.t 20)⟩]) .ret))))))
def f62 : FD := ⟨21, [.t 2], d62, .raw⟩
theorem ok62 : compF planOf Tryd.prog 62 = some ⟨21, [.t 2], d62.er⟩ := by kernel_rfl
def d63 : D := .seq (.reg [⟨some 1, none, .box (.t 0)⟩,
  ⟨some 2, none, .mv (.c (.nilf))⟩]) (.kb [1] (.seq (.reg [⟨some 3, none, .mkf (.func 76) [] [.t 1]⟩,
  ⟨some 2, none, .mv (.t 3)⟩]) .ret))
def f63 : FD := ⟨4, [.t 2], d63, .raw⟩
theorem ok63 : compF planOf Tryd.prog 63 = some ⟨4, [.t 2], d63.er⟩ := by kernel_rfl
def b64_0 : D := .seq (.reg [⟨some 9, none, .bin .lss (.t 8) (.t 7)⟩]) (.kb [3, 6, 7, 8, 9] (.seq (.cond (.t 9) .skip (.exit 0)) (.kb [3, 6, 7, 8] (.seq (.block 1 (.seq (.reg [⟨some 10, none, .ia 7 (.t 6) (.t 8)⟩,
  ⟨some 11, none, .lda 7 (.t 10)⟩,
  ⟨some 5, none, .new [.int .i64 0, .str [], .bool false, .nils, .nils, .int .i64 0, .int .i64 0]⟩,
  ⟨none, none, .st 7 (.t 5) (.t 11)⟩]) (.kb [3, 5, 6, 7, 8] (.reg [⟨some 12, none, .mv (.t 3)⟩,
  ⟨some 13, none, .lda 7 (.t 5)⟩,
  ⟨some 14, none, .call 22 [.t 13, .c (.int .i64 0)]⟩,
  ⟨some 15, none, .bslice [.str []] 1 [(0, .t 14)]⟩,
  ⟨some 16, none, .app 16 1 (.t 12) (.t 15)⟩,
  ⟨some 3, none, .mv (.t 16)⟩])))) (.kb [3, 6, 7, 8] (.reg [⟨some 17, none, .bin .add (.t 8) (.c (.int .i64 1))⟩,
  ⟨some 8, none, .mv (.t 17)⟩]))))))
def d64 : D := .seq (.reg [⟨some 2, none, .mv (.c (.str []))⟩]) (.kb [0] (.seq (.reg [⟨some 3, none, .mv (.c (.nils))⟩]) (.kb [0, 3] (.seq (.seq (.reg [⟨some 6, none, .mv (.t 0)⟩,
  ⟨some 7, none, .llen (.t 6)⟩,
  ⟨some 8, none, .mv (.c (.int .i64 0))⟩]) (.kb [3, 6, 7, 8] (.block 0 (.loop [3, 6, 7, 8] b64_0)))) (.kb [3] (.seq (.reg [⟨some 18, none, .mv (.t 3)⟩,
  ⟨some 19, none, .call 20 [.t 18, .c (.str [44, 32])]⟩,
  ⟨some 2, none, .mv (.t 19)⟩]) .ret))))))
def f64 : FD := ⟨20, [.t 2], d64, .all⟩
theorem ok64 : compF planOf Tryd.prog 64 = some ⟨20, [.t 2], d64.er⟩ := by kernel_rfl
def d65 : D := .seq (.reg [⟨some 2, none, .box (.t 0)⟩,
  ⟨some 4, none, .new [.int .i64 0, .str [], .bool false, .nils, .nils, .int .i64 0, .int .i64 0]⟩]) (.kb [1, 2, 4] (.seq (.seq (.reg [⟨some 5, none, .mv (.t 1)⟩,
  ⟨some 6, none, .fa 4 (.t 2)⟩,
  ⟨some 7, none, .ld (.t 6)⟩,
  ⟨some 8, none, .llen (.t 7)⟩,
  ⟨some 9, none, .bin .lss (.t 5) (.t 8)⟩]) (.kb [1, 2, 4, 9] (.cond (.t 9) (.seq (.reg [⟨some 10, none, .fa 4 (.t 2)⟩,
  ⟨some 11, none, .ld (.t 10)⟩,
  ⟨some 12, none, .mv (.t 1)⟩,
  ⟨some 13, none, .ia 7 (.t 11) (.t 12)⟩,
  ⟨some 14, none, .lda 7 (.t 13)⟩,
  ⟨none, none, .st 7 (.t 4) (.t 14)⟩]) .ret) .skip))) (.kb [4] (.seq (.reg [⟨some 15, none, .build [.int .i64 0, .str [], .bool false, .nils, .nils, .int .i64 0, .int .i64 0] [(0, 1, .c (.int .i64 1))]⟩,
  ⟨none, none, .st 7 (.t 4) (.t 15)⟩]) .ret))))
def f65 : FD := ⟨16, [.c 4 (some 7)], d65, .all⟩
theorem ok65 : compF planOf Tryd.prog 65 = some ⟨16, [.c 4 (some 7)], d65.er⟩ := by kernel_rfl
def d66 : D := .seq (.reg [⟨some 2, none, .mv (.c (.str []))⟩]) (.kb [0] (.seq (.seq (.reg [⟨some 3, none, .mv (.t 0)⟩]) (.kb [3] (.block 0 (.seq (.reg [⟨some 5, none, .bin .eql (.t 3) (.c (.int .i64 8))⟩,
  ⟨some 4, none, .mv (.t 5)⟩]) (.kb [3, 4] (.cond (.t 4) (.seq (.reg [⟨some 2, none, .mv (.c (.str [43]))⟩]) .ret) (.seq (.reg [⟨some 7, none, .bin .eql (.t 3) (.c (.int .i64 9))⟩,
  ⟨some 6, none, .mv (.t 7)⟩]) (.kb [3, 6] (.cond (.t 6) (.seq (.reg [⟨some 2, none, .mv (.c (.str [45]))⟩]) .ret) (.seq (.reg [⟨some 9, none, .bin .eql (.t 3) (.c (.int .i64 10))⟩,
  ⟨some 8, none, .mv (.t 9)⟩]) (.kb [3, 8] (.cond (.t 8) (.seq (.reg [⟨some 2, none, .mv (.c (.str [42]))⟩]) .ret) (.seq (.reg [⟨some 11, none, .bin .eql (.t 3) (.c (.int .i64 11))⟩,
  ⟨some 10, none, .mv (.t 11)⟩]) (.kb [3, 10] (.cond (.t 10) (.seq (.reg [⟨some 2, none, .mv (.c (.str [47]))⟩]) .ret) (.seq (.reg [⟨some 13, none, .bin .eql (.t 3) (.c (.int .i64 12))⟩,
  ⟨some 12, none, .mv (.t 13)⟩]) (.kb [3, 12] (.cond (.t 12) (.seq (.reg [⟨some 2, none, .mv (.c (.str [37]))⟩]) .ret) (.seq (.reg [⟨some 15, none, .bin .eql (.t 3) (.c (.int .i64 13))⟩,
  ⟨some 14, none, .mv (.t 15)⟩]) (.kb [3, 14] (.cond (.t 14) (.seq (.reg [⟨some 2, none, .mv (.c (.str [61]))⟩]) .ret) (.seq (.reg [⟨some 17, none, .bin .eql (.t 3) (.c (.int .i64 14))⟩,
  ⟨some 16, none, .mv (.t 17)⟩]) (.kb [3, 16] (.cond (.t 16) (.seq (.reg [⟨some 2, none, .mv (.c (.str [33, 61]))⟩]) .ret) (.seq (.reg [⟨some 19, none, .bin .eql (.t 3) (.c (.int .i64 15))⟩,
  ⟨some 18, none, .mv (.t 19)⟩]) (.kb [3, 18] (.cond (.t 18) (.seq (.reg [⟨some 2, none, .mv (.c (.str [60]))⟩]) .ret) (.seq (.reg [⟨some 21, none, .bin .eql (.t 3) (.c (.int .i64 16))⟩,
  ⟨some 20, none, .mv (.t 21)⟩]) (.kb [3, 20] (.cond (.t 20) (.seq (.reg [⟨some 2, none, .mv (.c (.str [60, 61]))⟩]) .ret) (.seq (.reg [⟨some 23, none, .bin .eql (.t 3) (.c (.int .i64 17))⟩,
  ⟨some 22, none, .mv (.t 23)⟩]) (.kb [3, 22] (.cond (.t 22) (.seq (.reg [⟨some 2, none, .mv (.c (.str [62]))⟩]) .ret) (.seq (.reg [⟨some 25, none, .bin .eql (.t 3) (.c (.int .i64 18))⟩,
  ⟨some 24, none, .mv (.t 25)⟩]) (.kb [3, 24] (.cond (.t 24) (.seq (.reg [⟨some 2, none, .mv (.c (.str [62, 61]))⟩]) .ret) (.seq (.reg [⟨some 27, none, .bin .eql (.t 3) (.c (.int .i64 19))⟩,
  ⟨some 26, none, .mv (.t 27)⟩]) (.kb [3, 26] (.cond (.t 26) (.seq (.reg [⟨some 2, none, .mv (.c (.str [97, 110, 100]))⟩]) .ret) (.seq (.reg [⟨some 29, none, .bin .eql (.t 3) (.c (.int .i64 20))⟩,
  ⟨some 28, none, .mv (.t 29)⟩]) (.kb [28] (.cond (.t 28) (.seq (.reg [⟨some 2, none, .mv (.c (.str [111, 114]))⟩]) .ret) .skip)))))))))))))))))))))))))))))))))))))))))) (.kb [] (.seq (.reg [⟨some 2, none, .mv (.c (.str []))⟩]) .ret))))
def f66 : FD := ⟨30, [.t 2], d66, .all⟩
theorem ok66 : compF planOf Tryd.prog 66 = some ⟨30, [.t 2], d66.er⟩ := by kernel_rfl
def b67_0 : D := .seq (.seq (.reg [⟨some 6, none, .mv (.t 3)⟩,
  ⟨some 7, none, .bin .gtr (.t 6) (.c (.int .i64 0))⟩,
  ⟨some 8, none, .mv (.t 7)⟩,
  ⟨some 9, some (8, true), .mv (.t 0)⟩,
  ⟨some 10, some (8, true), .mv (.t 3)⟩,
  ⟨some 11, some (8, true), .bin .sub (.t 10) (.c (.int .i64 1))⟩,
  ⟨some 12, some (8, true), .ia 1 (.t 9) (.t 11)⟩,
  ⟨some 13, some (8, true), .ld (.t 12)⟩,
  ⟨some 14, some (8, true), .bin .eql (.t 13) (.c (.int .u32 0))⟩,
  ⟨some 15, none, .pick (.t 8) (.t 14) (.c (.bool false))⟩]) (.kb [0, 3, 15] (.cond (.t 15) .skip (.exit 0)))) (.kb [0, 3] (.block 1 (.reg [⟨some 16, none, .mv (.t 3)⟩,
  ⟨some 17, none, .bin .sub (.t 16) (.c (.int .i64 1))⟩,
  ⟨some 3, none, .mv (.t 17)⟩])))
def d67 : D := .seq (.reg [⟨some 2, none, .mv (.c (.nils))⟩]) (.kb [0] (.seq (.reg [⟨some 4, none, .mv (.t 0)⟩,
  ⟨some 5, none, .llen (.t 4)⟩,
  ⟨some 3, none, .mv (.t 5)⟩]) (.kb [0, 3] (.seq (.block 0 (.loop [0, 3] b67_0)) (.kb [0, 3] (.seq (.reg [⟨some 18, none, .mv (.t 0)⟩,
  ⟨some 19, none, .mv (.t 3)⟩,
  ⟨some 20, none, .lsl 1 (.t 18) none (some (.t 19))⟩,
  ⟨some 21, none, .app 4 1 (.c (.nils)) (.t 20)⟩,
  ⟨some 2, none, .mv (.t 21)⟩]) .ret))))))
def f67 : FD := ⟨22, [.t 2], d67, .raw⟩
theorem ok67 : compF planOf Tryd.prog 67 = some ⟨22, [.t 2], d67.er⟩ := by kernel_rfl
def b68_0 : D := .seq (.reg [⟨some 8, none, .mv (.t 16)⟩]) (.kb [3, 6, 7, 8, 17] (.reg [⟨some 9, none, .mv (.t 17)⟩]))
def b68_1 : D := .block 1 (.seq (.reg [⟨some 18, none, .ld (.t 7)⟩,
  ⟨some 19, none, .bin .shl (.t 18) (.c (.int .u64 32))⟩,
  ⟨some 20, none, .mv (.t 9)⟩,
  ⟨some 21, none, .cvi .u64 (.t 20)⟩,
  ⟨some 22, none, .bin .or (.t 19) (.t 21)⟩,
  ⟨some 10, none, .mv (.t 22)⟩]) (.kb [3, 6, 7, 8, 10] (.drw (.q ⟨some 23, none, .ld (.t 6)⟩ (.q ⟨some 24, none, .mv (.t 8)⟩ (.q ⟨some 25, none, .mv (.t 10)⟩ (.q ⟨some 26, none, .ld (.t 3)⟩ (.q ⟨some 27, none, .cvi .u64 (.t 26)⟩ (.q ⟨some 28, none, .bin .quo (.t 25) (.t 27)⟩ (.q ⟨some 29, none, .cvi .u32 (.t 28)⟩ (.q ⟨some 30, none, .mv (.t 10)⟩ (.q ⟨some 31, none, .ld (.t 3)⟩ (.q ⟨some 32, none, .cvi .u64 (.t 31)⟩ (.q ⟨some 33, none, .bin .rem (.t 30) (.t 32)⟩ (.q ⟨some 34, none, .ia 1 (.t 23) (.t 24)⟩ (.alt ⟨none, none, .st 1 (.t 34) (.t 29)⟩ [⟨some 31, none, .ld (.t 3)⟩] (.alt ⟨none, none, .st 1 (.t 7) (.t 33)⟩ [] (.done) (.stop)) (.stop)))))))))))))))))
def d68 : D := .seq (.reg [⟨some 3, none, .box (.t 1)⟩,
  ⟨some 4, none, .mv (.c (.nils))⟩,
  ⟨some 5, none, .mv (.c (.int .u32 0))⟩]) (.kb [0, 3] (.seq (.reg [⟨some 11, none, .mv (.t 0)⟩,
  ⟨some 12, none, .llen (.t 11)⟩,
  ⟨some 13, none, .mksl 4 [.int .u32 0] (.t 12) (.t 12)⟩,
  ⟨some 6, none, .new [.nils]⟩,
  ⟨none, none, .st 1 (.t 6) (.t 13)⟩]) (.kb [0, 3, 6] (.seq (.reg [⟨some 7, none, .new [.int .u64 0]⟩,
  ⟨none, none, .st 1 (.t 7) (.c (.int .u64 0))⟩]) (.kb [0, 3, 6, 7] (.seq (.seq (.reg [⟨some 14, none, .mv (.t 0)⟩,
  ⟨some 15, none, .call 63 [.t 14]⟩]) (.kb [3, 6, 7, 15] (.block 0 (.rng (.t 15) [16, 17] b68_0 b68_1)))) (.kb [6, 7] (.seq (.drw (.q ⟨some 35, none, .ld (.t 6)⟩ (.q ⟨some 37, none, .ld (.t 7)⟩ (.q ⟨some 38, none, .cvi .u32 (.t 37)⟩ (.alt ⟨some 36, none, .call 62 [.t 35]⟩ [⟨some 37, none, .ld (.t 7)⟩] (.q ⟨some 4, none, .mv (.t 36)⟩ (.q ⟨some 5, none, .mv (.t 38)⟩ (.done))) (.stop)))))) .ret))))))))
def f68 : FD := ⟨39, [.t 4, .t 5], d68, .raw⟩
theorem ok68 : compF planOf Tryd.prog 68 = some ⟨39, [.t 4, .t 5], d68.er⟩ := by kernel_rfl
def d69 : D := .seq (.reg [⟨some 2, none, .new [.int .i64 0, .str [], .int .i64 0, .int .i64 0]⟩]) (.kb [0, 2] (.seq (.reg [⟨some 4, none, .mv (.t 0)⟩,
  ⟨some 5, none, .call 32 [.t 4]⟩,
  ⟨some 3, none, .new [.int .i64 0, .str [], .int .i64 0, .int .i64 0]⟩,
  ⟨none, none, .st 4 (.t 3) (.t 5)⟩]) (.kb [0, 2, 3] (.seq (.seq (.reg [⟨some 6, none, .fa 0 (.t 3)⟩,
  ⟨some 7, none, .ld (.t 6)⟩,
  ⟨some 8, none, .bin .neq (.t 7) (.c (.int .i64 0))⟩]) (.kb [0, 2, 3, 8] (.cond (.t 8) (.reg [⟨some 9, none, .mv (.t 0)⟩,
  ⟨some 10, none, .nilck (.t 9)⟩,
  ⟨some 11, none, .fa 1 (.t 10)⟩,
  ⟨some 12, none, .ld (.t 11)⟩,
  ⟨some 13, none, .bin .add (.t 12) (.c (.int .i64 1))⟩,
  ⟨some 14, none, .nilck (.t 9)⟩,
  ⟨some 15, none, .fa 1 (.t 14)⟩,
  ⟨none, none, .st 1 (.t 15) (.t 13)⟩]) .skip))) (.kb [2, 3] (.seq (.reg [⟨some 16, none, .lda 4 (.t 3)⟩,
  ⟨none, none, .st 4 (.t 2) (.t 16)⟩]) .ret))))))
def f69 : FD := ⟨17, [.c 2 (some 4)], d69, .all⟩
theorem ok69 : compF planOf Tryd.prog 69 = some ⟨17, [.c 2 (some 4)], d69.er⟩ := by kernel_rfl
def d70 : D := .seq (.reg [⟨some 2, none, .mv (.c (.int .i64 0))⟩]) (.kb [0] (.seq (.reg [⟨some 8, none, .mv (.t 0)⟩,
  ⟨some 9, none, .call 32 [.t 8]⟩,
  ⟨some 3, none, .new [.int .i64 0, .str [], .int .i64 0, .int .i64 0]⟩,
  ⟨none, none, .st 4 (.t 3) (.t 9)⟩]) (.kb [0, 3] (.seq (.seq (.reg [⟨some 10, none, .fa 0 (.t 3)⟩,
  ⟨some 11, none, .ld (.t 10)⟩,
  ⟨some 12, none, .bin .neq (.t 11) (.c (.int .i64 3))⟩]) (.kb [0, 3, 12] (.cond (.t 12) (.reg [⟨some 13, none, .mv (.t 0)⟩,
  ⟨some 14, none, .call 51 [.t 13]⟩]) .skip))) (.kb [0, 3] (.seq (.reg [⟨some 16, none, .fa 1 (.t 3)⟩,
  ⟨some 17, none, .ld (.t 16)⟩,
  ⟨some 18, none, .call 77 [.t 17]⟩,
  ⟨some 15, none, .mv (.t 18)⟩,
  ⟨some 19, none, .ext (.t 15) 0⟩,
  ⟨some 20, none, .ext (.t 15) 1⟩,
  ⟨some 4, none, .new [.bool false, .nils]⟩,
  ⟨none, none, .st 2 (.t 4) (.t 19)⟩,
  ⟨some 5, none, .mv (.t 20)⟩]) (.kb [0, 4, 5] (.seq (.reg [⟨some 22, none, .lda 2 (.t 4)⟩,
  ⟨some 23, none, .call 78 [.t 22]⟩,
  ⟨some 21, none, .mv (.t 23)⟩,
  ⟨some 24, none, .ext (.t 21) 0⟩,
  ⟨some 25, none, .ext (.t 21) 1⟩,
  ⟨some 6, none, .mv (.t 24)⟩,
  ⟨some 7, none, .mv (.t 25)⟩]) (.kb [0, 5, 6, 7] (.seq (.seq (.reg [⟨some 26, none, .mv (.t 5)⟩,
  ⟨some 27, none, .bin .neq (.t 26) (.c (.int .i64 0))⟩,
  ⟨some 28, none, .mv (.t 27)⟩,
  ⟨some 29, some (28, false), .mv (.t 7)⟩,
  ⟨some 30, some (28, false), .un .not (.t 29)⟩,
  ⟨some 31, none, .pick (.t 28) (.c (.bool true)) (.t 30)⟩,
  ⟨some 32, none, .mv (.t 31)⟩,
  ⟨some 33, some (32, false), .mv (.t 6)⟩,
  ⟨some 34, some (32, false), .bin .gtr (.t 33) (.c (.int .i64 1000000))⟩,
  ⟨some 35, none, .pick (.t 32) (.c (.bool true)) (.t 34)⟩]) (.kb [0, 6, 35] (.cond (.t 35) (.reg [⟨some 36, none, .mv (.t 0)⟩,
  ⟨some 37, none, .call 33 [.t 36, .c (.int .i64 3)]⟩]) .skip))) (.kb [0, 6] (.seq (.reg [⟨some 38, none, .mv (.t 0)⟩,
  ⟨some 39, none, .nilck (.t 38)⟩,
  ⟨some 40, none, .fa 1 (.t 39)⟩,
  ⟨some 41, none, .ld (.t 40)⟩,
  ⟨some 42, none, .bin .add (.t 41) (.c (.int .i64 1))⟩,
  ⟨some 43, none, .nilck (.t 38)⟩,
  ⟨some 44, none, .fa 1 (.t 43)⟩,
  ⟨none, none, .st 1 (.t 44) (.t 42)⟩]) (.kb [6] (.seq (.reg [⟨some 45, none, .mv (.t 6)⟩,
  ⟨some 2, none, .mv (.t 45)⟩]) .ret))))))))))))))
def f70 : FD := ⟨46, [.t 2], d70, .all⟩
theorem ok70 : compF planOf Tryd.prog 70 = some ⟨46, [.t 2], d70.er⟩ := by kernel_rfl
def d71 : D := .seq (.reg [⟨some 1, none, .box (.t 0)⟩,
  ⟨some 2, none, .new [.int .i64 0, .str [], .bool false, .nils, .nils, .int .i64 0, .int .i64 0]⟩]) (.kb [1, 2] (.seq (.reg [⟨some 6, none, .ld (.t 1)⟩,
  ⟨some 7, none, .call 53 [.t 6]⟩]) (.kb [1, 2] (.seq (.reg [⟨some 8, none, .mkf (.func 79) [] [.t 1]⟩,
  ⟨none, none, .defer (.t 8) []⟩]) (.kb [1, 2] (.seq (.reg [⟨some 9, none, .ld (.t 1)⟩,
  ⟨some 10, none, .call 32 [.t 9]⟩,
  ⟨some 11, none, .fld (some 2) 2 (.t 10)⟩,
  ⟨some 12, none, .fld none 0 (.t 11)⟩,
  ⟨some 3, none, .mv (.t 12)⟩]) (.kb [1, 2, 3] (.seq (.block 0 (.seq (.reg [⟨some 14, none, .ld (.t 1)⟩,
  ⟨some 15, none, .call 27 [.t 14, .c (.str [45])]⟩,
  ⟨some 13, none, .mv (.t 15)⟩]) (.kb [1, 2, 3, 13] (.cond (.t 13) (.seq (.reg [⟨some 16, none, .ld (.t 1)⟩,
  ⟨some 17, none, .call 71 [.t 16]⟩,
  ⟨some 4, none, .new [.int .i64 0, .str [], .bool false, .nils, .nils, .int .i64 0, .int .i64 0]⟩,
  ⟨none, none, .st 7 (.t 4) (.t 17)⟩]) (.kb [1, 2, 3, 4] (.seq (.reg [⟨some 18, none, .ld (.t 1)⟩,
  ⟨some 19, none, .mv (.t 3)⟩,
  ⟨some 20, none, .lda 7 (.t 4)⟩,
  ⟨some 21, none, .bslice [.int .i64 0, .str [], .bool false, .nils, .nils, .int .i64 0, .int .i64 0] 1 [(0, .t 20)]⟩,
  ⟨some 22, none, .call 55 [.t 18, .c (.int .i64 6), .t 19, .t 21]⟩,
  ⟨none, none, .st 7 (.t 2) (.t 22)⟩]) .ret))) (.seq (.reg [⟨some 24, none, .ld (.t 1)⟩,
  ⟨some 25, none, .call 27 [.t 24, .c (.str [110, 111, 116])]⟩,
  ⟨some 23, none, .mv (.t 25)⟩]) (.kb [1, 2, 3, 23] (.cond (.t 23) (.seq (.reg [⟨some 26, none, .ld (.t 1)⟩,
  ⟨some 27, none, .call 71 [.t 26]⟩,
  ⟨some 5, none, .new [.int .i64 0, .str [], .bool false, .nils, .nils, .int .i64 0, .int .i64 0]⟩,
  ⟨none, none, .st 7 (.t 5) (.t 27)⟩]) (.kb [1, 2, 3, 5] (.seq (.reg [⟨some 28, none, .ld (.t 1)⟩,
  ⟨some 29, none, .mv (.t 3)⟩,
  ⟨some 30, none, .lda 7 (.t 5)⟩,
  ⟨some 31, none, .bslice [.int .i64 0, .str [], .bool false, .nils, .nils, .int .i64 0, .int .i64 0] 1 [(0, .t 30)]⟩,
  ⟨some 32, none, .call 55 [.t 28, .c (.int .i64 7), .t 29, .t 31]⟩,
  ⟨none, none, .st 7 (.t 2) (.t 32)⟩]) .ret))) .skip))))))) (.kb [1, 2] (.seq (.reg [⟨some 33, none, .ld (.t 1)⟩,
  ⟨some 34, none, .call 80 [.t 33]⟩,
  ⟨none, none, .st 7 (.t 2) (.t 34)⟩]) .ret))))))))))
def f71 : FD := ⟨35, [.c 2 (some 7)], d71, .cut⟩
theorem ok71 : compF planOf Tryd.prog 71 = some ⟨35, [.c 2 (some 7)], d71.er⟩ := by kernel_rfl
def d72 : D := .seq (.reg [⟨some 3, none, .box (.t 1)⟩,
  ⟨some 4, none, .mv (.c (.int .i64 0))⟩]) (.kb [0, 3] (.seq (.seq (.reg [⟨some 5, none, .fa 0 (.t 3)⟩,
  ⟨some 6, none, .ld (.t 5)⟩,
  ⟨some 7, none, .bin .neq (.t 6) (.c (.int .i64 4))⟩,
  ⟨some 8, none, .mv (.t 7)⟩,
  ⟨some 9, some (8, true), .fa 0 (.t 3)⟩,
  ⟨some 10, some (8, true), .ld (.t 9)⟩,
  ⟨some 11, some (8, true), .bin .neq (.t 10) (.c (.int .i64 2))⟩,
  ⟨some 12, none, .pick (.t 8) (.t 11) (.c (.bool false))⟩]) (.kb [0, 3, 12] (.cond (.t 12) (.seq (.reg [⟨some 4, none, .mv (.c (.int .i64 0))⟩]) .ret) .skip))) (.kb [0, 3] (.seq (.seq (.reg [⟨some 13, none, .mv (.t 0)⟩]) (.kb [3, 13] (.block 0 (.seq (.reg [⟨some 15, none, .bin .eql (.t 13) (.c (.int .i64 0))⟩,
  ⟨some 14, none, .mv (.t 15)⟩]) (.kb [3, 13, 14] (.cond (.t 14) (.seq (.reg [⟨some 16, none, .fa 1 (.t 3)⟩,
  ⟨some 17, none, .ld (.t 16)⟩,
  ⟨some 18, none, .bin .eql (.t 17) (.c (.str [111, 114]))⟩]) (.kb [18] (.cond (.t 18) (.seq (.reg [⟨some 4, none, .mv (.c (.int .i64 20))⟩]) .ret) .skip))) (.seq (.reg [⟨some 20, none, .bin .eql (.t 13) (.c (.int .i64 1))⟩,
  ⟨some 19, none, .mv (.t 20)⟩]) (.kb [3, 13, 19] (.cond (.t 19) (.seq (.reg [⟨some 21, none, .fa 1 (.t 3)⟩,
  ⟨some 22, none, .ld (.t 21)⟩,
  ⟨some 23, none, .bin .eql (.t 22) (.c (.str [97, 110, 100]))⟩]) (.kb [23] (.cond (.t 23) (.seq (.reg [⟨some 4, none, .mv (.c (.int .i64 19))⟩]) .ret) .skip))) (.seq (.reg [⟨some 25, none, .bin .eql (.t 13) (.c (.int .i64 2))⟩,
  ⟨some 24, none, .mv (.t 25)⟩]) (.kb [3, 13, 24] (.cond (.t 24) (.seq (.reg [⟨some 26, none, .fa 1 (.t 3)⟩,
  ⟨some 27, none, .ld (.t 26)⟩,
  ⟨some 28, none, .call 81 [.t 27]⟩,
  ⟨some 4, none, .mv (.t 28)⟩]) .ret) (.seq (.reg [⟨some 30, none, .bin .eql (.t 13) (.c (.int .i64 3))⟩,
  ⟨some 29, none, .mv (.t 30)⟩]) (.kb [3, 13, 29] (.cond (.t 29) (.seq (.reg [⟨some 31, none, .fa 1 (.t 3)⟩,
  ⟨some 32, none, .ld (.t 31)⟩]) (.kb [32] (.block 1 (.seq (.reg [⟨some 34, none, .bin .eql (.t 32) (.c (.str [43]))⟩,
  ⟨some 33, none, .mv (.t 34)⟩]) (.kb [32, 33] (.cond (.t 33) (.seq (.reg [⟨some 4, none, .mv (.c (.int .i64 8))⟩]) .ret) (.seq (.reg [⟨some 36, none, .bin .eql (.t 32) (.c (.str [45]))⟩,
  ⟨some 35, none, .mv (.t 36)⟩]) (.kb [35] (.cond (.t 35) (.seq (.reg [⟨some 4, none, .mv (.c (.int .i64 9))⟩]) .ret) .skip))))))))) (.seq (.reg [⟨some 38, none, .bin .eql (.t 13) (.c (.int .i64 4))⟩,
  ⟨some 37, none, .mv (.t 38)⟩]) (.kb [3, 37] (.cond (.t 37) (.seq (.reg [⟨some 39, none, .fa 1 (.t 3)⟩,
  ⟨some 40, none, .ld (.t 39)⟩]) (.kb [40] (.block 2 (.seq (.reg [⟨some 42, none, .bin .eql (.t 40) (.c (.str [42]))⟩,
  ⟨some 41, none, .mv (.t 42)⟩]) (.kb [40, 41] (.cond (.t 41) (.seq (.reg [⟨some 4, none, .mv (.c (.int .i64 10))⟩]) .ret) (.seq (.reg [⟨some 44, none, .bin .eql (.t 40) (.c (.str [47]))⟩,
  ⟨some 43, none, .mv (.t 44)⟩]) (.kb [40, 43] (.cond (.t 43) (.seq (.reg [⟨some 4, none, .mv (.c (.int .i64 11))⟩]) .ret) (.seq (.reg [⟨some 46, none, .bin .eql (.t 40) (.c (.str [37]))⟩,
  ⟨some 45, none, .mv (.t 46)⟩]) (.kb [45] (.cond (.t 45) (.seq (.reg [⟨some 4, none, .mv (.c (.int .i64 12))⟩]) .ret) .skip)))))))))))) .skip)))))))))))))))))) (.kb [] (.seq (.reg [⟨some 4, none, .mv (.c (.int .i64 0))⟩]) .ret))))))
def f72 : FD := ⟨47, [.t 4], d72, .all⟩
theorem ok72 : compF planOf Tryd.prog 72 = some ⟨47, [.t 4], d72.er⟩ := by kernel_rfl
def b76_0 : D := .seq (.seq (.reg [⟨some 7, none, .mv (.t 3)⟩,
  ⟨some 8, none, .bin .geq (.t 7) (.c (.int .i64 0))⟩]) (.kb [0, 1, 3, 8] (.cond (.t 8) .skip (.exit 0)))) (.kb [0, 1, 3] (.seq (.block 1 (.seq (.reg [⟨some 11, none, .mv (.t 0)⟩,
  ⟨some 12, none, .mv (.t 3)⟩,
  ⟨some 13, none, .ld (.t 1)⟩,
  ⟨some 14, none, .mv (.t 3)⟩,
  ⟨some 15, none, .ia 1 (.t 13) (.t 14)⟩,
  ⟨some 16, none, .ld (.t 15)⟩,
  ⟨some 17, none, .callv (.t 11) [.t 12, .t 16]⟩,
  ⟨some 18, none, .un .not (.t 17)⟩]) (.kb [0, 1, 3, 18] (.cond (.t 18) .ret .skip)))) (.kb [0, 1, 3] (.reg [⟨some 9, none, .mv (.t 3)⟩,
  ⟨some 10, none, .bin .sub (.t 9) (.c (.int .i64 1))⟩,
  ⟨some 3, none, .mv (.t 10)⟩]))))
def d76 : D := .seq (.reg [⟨some 4, none, .ld (.t 1)⟩,
  ⟨some 5, none, .llen (.t 4)⟩,
  ⟨some 6, none, .bin .sub (.t 5) (.c (.int .i64 1))⟩,
  ⟨some 3, none, .mv (.t 6)⟩]) (.kb [0, 1, 3] (.block 0 (.loop [0, 1, 3] b76_0)))
def f76 : FD := ⟨19, [], d76, .all⟩
theorem ok76 : compF planOf Tryd.prog 76 = some ⟨19, [], d76.er⟩ := by kernel_rfl
def d77 : D := .seq (.reg [⟨some 2, none, .new [.bool false, .nils]⟩,
  ⟨some 3, none, .mv (.c (.int .i64 0))⟩]) (.kb [0, 2] (.seq (.reg [⟨some 7, none, .mv (.t 0)⟩,
  ⟨some 8, none, .slen (.t 7)⟩,
  ⟨some 9, none, .bin .gtr (.t 8) (.c (.int .i64 0))⟩,
  ⟨some 10, none, .mv (.t 9)⟩,
  ⟨some 11, some (10, true), .mv (.t 0)⟩,
  ⟨some 12, some (10, true), .sx (.t 11) (.c (.int .i64 0))⟩,
  ⟨some 13, some (10, true), .bin .eql (.t 12) (.c (.int .u8 45))⟩,
  ⟨some 14, none, .pick (.t 10) (.t 13) (.c (.bool false))⟩,
  ⟨some 4, none, .mv (.t 14)⟩]) (.kb [0, 2, 4] (.seq (.seq (.reg [⟨some 15, none, .mv (.t 4)⟩]) (.kb [0, 2, 4, 15] (.cond (.t 15) (.reg [⟨some 16, none, .mv (.t 0)⟩,
  ⟨some 17, none, .ssl (.t 16) (some (.c (.int .i64 1))) none⟩,
  ⟨some 0, none, .mv (.t 17)⟩]) .skip))) (.kb [0, 2, 4] (.seq (.reg [⟨some 19, none, .mv (.t 0)⟩,
  ⟨some 20, none, .call 86 [.t 19]⟩,
  ⟨some 18, none, .mv (.t 20)⟩,
  ⟨some 21, none, .ext (.t 18) 0⟩,
  ⟨some 22, none, .ext (.t 18) 1⟩,
  ⟨some 5, none, .mv (.t 21)⟩,
  ⟨some 6, none, .mv (.t 22)⟩]) (.kb [2, 4, 5, 6] (.seq (.seq (.reg [⟨some 23, none, .mv (.t 6)⟩,
  ⟨some 24, none, .bin .neq (.t 23) (.c (.int .i64 0))⟩,
  ⟨some 25, none, .mv (.t 24)⟩,
  ⟨some 26, some (25, false), .mv (.t 4)⟩,
  ⟨some 27, some (25, false), .mv (.t 26)⟩,
  ⟨some 28, some (27, true), .mv (.t 5)⟩,
  ⟨some 29, some (27, true), .llen (.t 28)⟩,
  ⟨some 30, some (27, true), .bin .eql (.t 29) (.c (.int .i64 0))⟩,
  ⟨some 31, some (25, false), .pick (.t 27) (.t 30) (.c (.bool false))⟩,
  ⟨some 32, none, .pick (.t 25) (.c (.bool true)) (.t 31)⟩]) (.kb [2, 4, 5, 32] (.cond (.t 32) (.seq (.reg [⟨some 33, none, .build [.bool false, .nils] []⟩,
  ⟨none, none, .st 2 (.t 2) (.t 33)⟩,
  ⟨some 3, none, .mv (.c (.int .i64 6))⟩]) .ret) .skip))) (.kb [2, 4, 5] (.seq (.reg [⟨some 34, none, .mv (.t 4)⟩,
  ⟨some 35, none, .mv (.t 5)⟩,
  ⟨some 36, none, .call 43 [.t 34, .t 35]⟩,
  ⟨none, none, .st 2 (.t 2) (.t 36)⟩,
  ⟨some 3, none, .mv (.c (.int .i64 0))⟩]) .ret))))))))))
def f77 : FD := ⟨37, [.c 2 (some 2), .t 3], d77, .all⟩
theorem ok77 : compF planOf Tryd.prog 77 = some ⟨37, [.c 2 (some 2), .t 3], d77.er⟩ := by kernel_rfl
def b78_0 : D := .seq (.reg [⟨some 17, none, .bin .lss (.t 16) (.t 15)⟩]) (.kb [1, 5, 14, 15, 16, 17] (.seq (.cond (.t 17) .skip (.exit 0)) (.kb [1, 5, 14, 15, 16] (.seq (.block 1 (.seq (.reg [⟨some 18, none, .mv (.t 16)⟩,
  ⟨some 19, none, .ia 1 (.t 14) (.t 16)⟩,
  ⟨some 20, none, .ld (.t 19)⟩,
  ⟨some 6, none, .mv (.t 18)⟩,
  ⟨some 7, none, .mv (.t 20)⟩]) (.kb [1, 5, 6, 7, 14, 15, 16] (.reg [⟨some 21, none, .mv (.t 5)⟩,
  ⟨some 22, none, .mv (.t 7)⟩,
  ⟨some 23, none, .cvi .u64 (.t 22)⟩,
  ⟨some 24, none, .mv (.t 6)⟩,
  ⟨some 25, none, .bin .mul (.c (.int .i64 32)) (.t 24)⟩,
  ⟨some 26, none, .bin .shl (.t 23) (.t 25)⟩,
  ⟨some 27, none, .bin .or (.t 21) (.t 26)⟩,
  ⟨some 5, none, .mv (.t 27)⟩])))) (.kb [1, 5, 14, 15, 16] (.reg [⟨some 28, none, .bin .add (.t 16) (.c (.int .i64 1))⟩,
  ⟨some 16, none, .mv (.t 28)⟩]))))))
def d78 : D := .seq (.reg [⟨some 1, none, .box (.t 0)⟩,
  ⟨some 2, none, .mv (.c (.int .i64 0))⟩,
  ⟨some 3, none, .mv (.c (.bool false))⟩]) (.kb [1] (.seq (.reg [⟨some 8, none, .fa 1 (.t 1)⟩,
  ⟨some 9, none, .ld (.t 8)⟩,
  ⟨some 10, none, .call 67 [.t 9]⟩,
  ⟨some 4, none, .mv (.t 10)⟩]) (.kb [1, 4] (.seq (.seq (.reg [⟨some 11, none, .mv (.t 4)⟩,
  ⟨some 12, none, .llen (.t 11)⟩,
  ⟨some 13, none, .bin .gtr (.t 12) (.c (.int .i64 2))⟩]) (.kb [1, 4, 13] (.cond (.t 13) (.seq (.reg [⟨some 2, none, .mv (.c (.int .i64 0))⟩,
  ⟨some 3, none, .mv (.c (.bool false))⟩]) .ret) .skip))) (.kb [1, 4] (.seq (.reg [⟨some 5, none, .mv (.c (.int .u64 0))⟩]) (.kb [1, 4, 5] (.seq (.seq (.reg [⟨some 14, none, .mv (.t 4)⟩,
  ⟨some 15, none, .llen (.t 14)⟩,
  ⟨some 16, none, .mv (.c (.int .i64 0))⟩]) (.kb [1, 5, 14, 15, 16] (.block 0 (.loop [1, 5, 14, 15, 16] b78_0)))) (.kb [1, 5] (.seq (.block 2 (.seq (.reg [⟨some 30, none, .fa 0 (.t 1)⟩,
  ⟨some 31, none, .ld (.t 30)⟩,
  ⟨some 32, none, .un .not (.t 31)⟩,
  ⟨some 33, none, .mv (.t 32)⟩,
  ⟨some 34, some (33, true), .mv (.t 5)⟩,
  ⟨some 35, some (33, true), .bin .leq (.t 34) (.c (.int .u64 9223372036854775807))⟩,
  ⟨some 36, none, .pick (.t 33) (.t 35) (.c (.bool false))⟩,
  ⟨some 29, none, .mv (.t 36)⟩]) (.kb [1, 5, 29] (.cond (.t 29) (.seq (.reg [⟨some 37, none, .mv (.t 5)⟩,
  ⟨some 38, none, .cvi .i64 (.t 37)⟩,
  ⟨some 2, none, .mv (.t 38)⟩,
  ⟨some 3, none, .mv (.c (.bool true))⟩]) .ret) (.seq (.reg [⟨some 40, none, .fa 0 (.t 1)⟩,
  ⟨some 41, none, .ld (.t 40)⟩,
  ⟨some 42, none, .mv (.t 41)⟩,
  ⟨some 43, some (42, true), .mv (.t 5)⟩,
  ⟨some 44, some (42, true), .bin .leq (.t 43) (.c (.int .u64 9223372036854775808))⟩,
  ⟨some 45, none, .pick (.t 42) (.t 44) (.c (.bool false))⟩,
  ⟨some 39, none, .mv (.t 45)⟩]) (.kb [5, 39] (.cond (.t 39) (.seq (.reg [⟨some 46, none, .mv (.t 5)⟩,
  ⟨some 47, none, .bin .sub (.t 46) (.c (.int .u64 1))⟩,
  ⟨some 48, none, .cvi .i64 (.t 47)⟩,
  ⟨some 49, none, .un .neg (.t 48)⟩,
  ⟨some 50, none, .bin .sub (.t 49) (.c (.int .i64 1))⟩,
  ⟨some 2, none, .mv (.t 50)⟩,
  ⟨some 3, none, .mv (.c (.bool true))⟩]) .ret) .skip))))))) (.kb [] (.seq (.reg [⟨some 2, none, .mv (.c (.int .i64 0))⟩,
  ⟨some 3, none, .mv (.c (.bool false))⟩]) .ret))))))))))))
def f78 : FD := ⟨51, [.t 2, .t 3], d78, .all⟩
theorem ok78 : compF planOf Tryd.prog 78 = some ⟨51, [.t 2, .t 3], d78.er⟩ := by kernel_rfl
def d79 : D := .reg [⟨some 1, none, .ld (.t 0)⟩,
  ⟨some 2, none, .nilck (.t 1)⟩,
  ⟨some 3, none, .fa 2 (.t 2)⟩,
  ⟨some 4, none, .ld (.t 3)⟩,
  ⟨some 5, none, .bin .sub (.t 4) (.c (.int .i64 1))⟩,
  ⟨some 6, none, .nilck (.t 1)⟩,
  ⟨some 7, none, .fa 2 (.t 6)⟩,
  ⟨none, none, .st 1 (.t 7) (.t 5)⟩]
def f79 : FD := ⟨8, [], d79, .raw⟩
theorem ok79 : compF planOf Tryd.prog 79 = some ⟨8, [], d79.er⟩ := by kernel_rfl
def d80 : D := .seq (.reg [⟨some 2, none, .new [.int .i64 0, .str [], .bool false, .nils, .nils, .int .i64 0, .int .i64 0]⟩]) (.kb [0, 2] (.seq (.reg [⟨some 9, none, .mv (.t 0)⟩,
  ⟨some 10, none, .call 32 [.t 9]⟩,
  ⟨some 3, none, .new [.int .i64 0, .str [], .int .i64 0, .int .i64 0]⟩,
  ⟨none, none, .st 4 (.t 3) (.t 10)⟩]) (.kb [0, 2, 3] (.seq (.reg [⟨some 11, none, .fa 2 (.t 3)⟩,
  ⟨some 12, none, .fa 0 (.t 11)⟩,
  ⟨some 13, none, .ld (.t 12)⟩,
  ⟨some 4, none, .mv (.t 13)⟩]) (.kb [0, 2, 3, 4] (.seq (.block 0 (.seq (.reg [⟨some 15, none, .fa 0 (.t 3)⟩,
  ⟨some 16, none, .ld (.t 15)⟩,
  ⟨some 17, none, .bin .eql (.t 16) (.c (.int .i64 3))⟩,
  ⟨some 14, none, .mv (.t 17)⟩]) (.kb [0, 2, 3, 4, 14] (.cond (.t 14) (.seq (.reg [⟨some 19, none, .fa 1 (.t 3)⟩,
  ⟨some 20, none, .ld (.t 19)⟩,
  ⟨some 21, none, .call 77 [.t 20]⟩,
  ⟨some 18, none, .mv (.t 21)⟩,
  ⟨some 22, none, .ext (.t 18) 0⟩,
  ⟨some 23, none, .ext (.t 18) 1⟩,
  ⟨some 5, none, .new [.bool false, .nils]⟩,
  ⟨none, none, .st 2 (.t 5) (.t 22)⟩,
  ⟨some 6, none, .mv (.t 23)⟩]) (.kb [0, 2, 3, 5, 6] (.seq (.seq (.reg [⟨some 24, none, .mv (.t 6)⟩,
  ⟨some 25, none, .bin .neq (.t 24) (.c (.int .i64 0))⟩]) (.kb [0, 2, 3, 5, 6, 25] (.cond (.t 25) (.reg [⟨some 26, none, .mv (.t 0)⟩,
  ⟨some 27, none, .mv (.t 6)⟩,
  ⟨some 28, none, .call 33 [.t 26, .t 27]⟩]) .skip))) (.kb [0, 2, 3, 5] (.seq (.reg [⟨some 29, none, .mv (.t 0)⟩,
  ⟨some 30, none, .nilck (.t 29)⟩,
  ⟨some 31, none, .fa 1 (.t 30)⟩,
  ⟨some 32, none, .ld (.t 31)⟩,
  ⟨some 33, none, .bin .add (.t 32) (.c (.int .i64 1))⟩,
  ⟨some 34, none, .nilck (.t 29)⟩,
  ⟨some 35, none, .fa 1 (.t 34)⟩,
  ⟨none, none, .st 1 (.t 35) (.t 33)⟩]) (.kb [2, 3, 5] (.seq (.reg [⟨some 36, none, .lda 2 (.t 5)⟩,
  ⟨some 37, none, .fa 2 (.t 3)⟩,
  ⟨some 38, none, .lda 2 (.t 37)⟩,
  ⟨some 39, none, .build [.int .i64 0, .str [], .bool false, .nils, .nils, .int .i64 0, .int .i64 0] [(0, 1, .c (.int .i64 1)), (2, 2, .t 36), (5, 2, .t 38)]⟩,
  ⟨none, none, .st 7 (.t 2) (.t 39)⟩]) .ret))))))) (.seq (.reg [⟨some 41, none, .fa 0 (.t 3)⟩,
  ⟨some 42, none, .ld (.t 41)⟩,
  ⟨some 43, none, .bin .eql (.t 42) (.c (.int .i64 1))⟩,
  ⟨some 40, none, .mv (.t 43)⟩]) (.kb [0, 2, 3, 4, 40] (.cond (.t 40) (.seq (.reg [⟨some 44, none, .mv (.t 0)⟩,
  ⟨some 45, none, .nilck (.t 44)⟩,
  ⟨some 46, none, .fa 1 (.t 45)⟩,
  ⟨some 47, none, .ld (.t 46)⟩,
  ⟨some 48, none, .bin .add (.t 47) (.c (.int .i64 1))⟩,
  ⟨some 49, none, .nilck (.t 44)⟩,
  ⟨some 50, none, .fa 1 (.t 49)⟩,
  ⟨none, none, .st 1 (.t 50) (.t 48)⟩]) (.kb [0, 2, 3, 4] (.seq (.seq (.reg [⟨some 51, none, .mv (.t 0)⟩,
  ⟨some 52, none, .call 49 [.t 51, .c (.str [40])]⟩]) (.kb [0, 2, 3, 4, 52] (.cond (.t 52) (.seq (.reg [⟨some 53, none, .mv (.t 0)⟩,
  ⟨some 54, none, .mv (.t 4)⟩,
  ⟨some 55, none, .mv (.t 0)⟩,
  ⟨some 56, none, .call 87 [.t 55, .c (.int .i64 (-1))]⟩,
  ⟨some 57, none, .call 55 [.t 53, .c (.int .i64 5), .t 54, .t 56]⟩,
  ⟨some 7, none, .new [.int .i64 0, .str [], .bool false, .nils, .nils, .int .i64 0, .int .i64 0]⟩,
  ⟨none, none, .st 7 (.t 7) (.t 57)⟩]) (.kb [2, 3, 7] (.seq (.reg [⟨some 58, none, .fa 1 (.t 3)⟩,
  ⟨some 59, none, .ld (.t 58)⟩,
  ⟨some 60, none, .fa 1 (.t 7)⟩,
  ⟨none, none, .st 1 (.t 60) (.t 59)⟩]) (.kb [2, 7] (.seq (.reg [⟨some 61, none, .lda 7 (.t 7)⟩,
  ⟨none, none, .st 7 (.t 2) (.t 61)⟩]) .ret))))) .skip))) (.kb [2, 3] (.seq (.reg [⟨some 62, none, .fa 1 (.t 3)⟩,
  ⟨some 63, none, .ld (.t 62)⟩,
  ⟨some 64, none, .fa 2 (.t 3)⟩,
  ⟨some 65, none, .lda 2 (.t 64)⟩,
  ⟨some 66, none, .build [.int .i64 0, .str [], .bool false, .nils, .nils, .int .i64 0, .int .i64 0] [(0, 1, .c (.int .i64 4)), (1, 1, .t 63), (5, 2, .t 65)]⟩,
  ⟨none, none, .st 7 (.t 2) (.t 66)⟩]) .ret))))) (.seq (.reg [⟨some 68, none, .mv (.t 0)⟩,
  ⟨some 69, none, .call 27 [.t 68, .c (.str [118])]⟩,
  ⟨some 67, none, .mv (.t 69)⟩]) (.kb [0, 2, 3, 4, 67] (.cond (.t 67) (.seq (.reg [⟨some 70, none, .fa 2 (.t 3)⟩,
  ⟨some 71, none, .lda 2 (.t 70)⟩,
  ⟨some 72, none, .build [.int .i64 0, .str [], .bool false, .nils, .nils, .int .i64 0, .int .i64 0] [(0, 1, .c (.int .i64 4)), (1, 1, .c (.str [118])), (5, 2, .t 71)]⟩,
  ⟨none, none, .st 7 (.t 2) (.t 72)⟩]) .ret) (.seq (.reg [⟨some 74, none, .mv (.t 0)⟩,
  ⟨some 75, none, .call 27 [.t 74, .c (.str [116, 114, 117, 101])]⟩,
  ⟨some 73, none, .mv (.t 75)⟩]) (.kb [0, 2, 3, 4, 73] (.cond (.t 73) (.seq (.reg [⟨some 76, none, .fa 2 (.t 3)⟩,
  ⟨some 77, none, .lda 2 (.t 76)⟩,
  ⟨some 78, none, .build [.int .i64 0, .str [], .bool false, .nils, .nils, .int .i64 0, .int .i64 0] [(0, 1, .c (.int .i64 2)), (5, 2, .t 77)]⟩,
  ⟨none, none, .st 7 (.t 2) (.t 78)⟩]) .ret) (.seq (.reg [⟨some 80, none, .mv (.t 0)⟩,
  ⟨some 81, none, .call 27 [.t 80, .c (.str [102, 97, 108, 115, 101])]⟩,
  ⟨some 79, none, .mv (.t 81)⟩]) (.kb [0, 2, 3, 4, 79] (.cond (.t 79) (.seq (.reg [⟨some 82, none, .fa 2 (.t 3)⟩,
  ⟨some 83, none, .lda 2 (.t 82)⟩,
  ⟨some 84, none, .build [.int .i64 0, .str [], .bool false, .nils, .nils, .int .i64 0, .int .i64 0] [(0, 1, .c (.int .i64 3)), (5, 2, .t 83)]⟩,
  ⟨none, none, .st 7 (.t 2) (.t 84)⟩]) .ret) (.seq (.reg [⟨some 86, none, .mv (.t 0)⟩,
  ⟨some 87, none, .call 27 [.t 86, .c (.str [40])]⟩,
  ⟨some 85, none, .mv (.t 87)⟩]) (.kb [0, 2, 4, 85] (.cond (.t 85) (.seq (.reg [⟨some 88, none, .mv (.t 0)⟩,
  ⟨some 89, none, .call 31 [.t 88]⟩,
  ⟨some 8, none, .new [.int .i64 0, .str [], .bool false, .nils, .nils, .int .i64 0, .int .i64 0]⟩,
  ⟨none, none, .st 7 (.t 8) (.t 89)⟩]) (.kb [0, 2, 8] (.seq (.reg [⟨some 90, none, .mv (.t 0)⟩,
  ⟨some 91, none, .call 29 [.t 90, .c (.str [41])]⟩]) (.kb [2, 8] (.seq (.reg [⟨some 92, none, .lda 7 (.t 8)⟩,
  ⟨none, none, .st 7 (.t 2) (.t 92)⟩]) .ret))))) .skip))))))))))))))))))) (.kb [0, 2, 4] (.seq (.reg [⟨some 93, none, .mv (.t 0)⟩,
  ⟨some 94, none, .mv (.t 4)⟩,
  ⟨some 95, none, .call 88 [.t 93, .t 94]⟩,
  ⟨none, none, .st 7 (.t 2) (.t 95)⟩]) .ret))))))))
def f80 : FD := ⟨96, [.c 2 (some 7)], d80, .cut⟩
theorem ok80 : compF planOf Tryd.prog 80 = some ⟨96, [.c 2 (some 7)], d80.er⟩ := by kernel_rfl
def d81 : D := .seq (.reg [⟨some 2, none, .mv (.c (.int .i64 0))⟩]) (.kb [0] (.seq (.seq (.reg [⟨some 3, none, .mv (.t 0)⟩]) (.kb [3] (.block 0 (.seq (.reg [⟨some 5, none, .bin .eql (.t 3) (.c (.str [61]))⟩,
  ⟨some 4, none, .mv (.t 5)⟩]) (.kb [3, 4] (.cond (.t 4) (.seq (.reg [⟨some 2, none, .mv (.c (.int .i64 13))⟩]) .ret) (.seq (.reg [⟨some 7, none, .bin .eql (.t 3) (.c (.str [33, 61]))⟩,
  ⟨some 6, none, .mv (.t 7)⟩]) (.kb [3, 6] (.cond (.t 6) (.seq (.reg [⟨some 2, none, .mv (.c (.int .i64 14))⟩]) .ret) (.seq (.reg [⟨some 9, none, .bin .eql (.t 3) (.c (.str [60]))⟩,
  ⟨some 8, none, .mv (.t 9)⟩]) (.kb [3, 8] (.cond (.t 8) (.seq (.reg [⟨some 2, none, .mv (.c (.int .i64 15))⟩]) .ret) (.seq (.reg [⟨some 11, none, .bin .eql (.t 3) (.c (.str [60, 61]))⟩,
  ⟨some 10, none, .mv (.t 11)⟩]) (.kb [3, 10] (.cond (.t 10) (.seq (.reg [⟨some 2, none, .mv (.c (.int .i64 16))⟩]) .ret) (.seq (.reg [⟨some 13, none, .bin .eql (.t 3) (.c (.str [62]))⟩,
  ⟨some 12, none, .mv (.t 13)⟩]) (.kb [3, 12] (.cond (.t 12) (.seq (.reg [⟨some 2, none, .mv (.c (.int .i64 17))⟩]) .ret) (.seq (.reg [⟨some 15, none, .bin .eql (.t 3) (.c (.str [62, 61]))⟩,
  ⟨some 14, none, .mv (.t 15)⟩]) (.kb [14] (.cond (.t 14) (.seq (.reg [⟨some 2, none, .mv (.c (.int .i64 18))⟩]) .ret) .skip))))))))))))))))))))) (.kb [] (.seq (.reg [⟨some 2, none, .mv (.c (.int .i64 0))⟩]) .ret))))
def f81 : FD := ⟨16, [.t 2], d81, .all⟩
theorem ok81 : compF planOf Tryd.prog 81 = some ⟨16, [.t 2], d81.er⟩ := by kernel_rfl
def b86_0 : D := .seq (.reg [⟨some 21, none, .bin .lss (.t 20) (.t 19)⟩]) (.kb [0, 4, 19, 20, 21] (.seq (.cond (.t 21) .skip (.exit 0)) (.kb [0, 4, 19, 20] (.seq (.block 1 (.seq (.reg [⟨some 22, none, .mv (.t 20)⟩,
  ⟨some 5, none, .mv (.t 22)⟩]) (.kb [0, 4, 5, 19, 20] (.seq (.seq (.reg [⟨some 23, none, .mv (.t 0)⟩,
  ⟨some 24, none, .mv (.t 5)⟩,
  ⟨some 25, none, .sx (.t 23) (.t 24)⟩,
  ⟨some 26, none, .bin .lss (.t 25) (.c (.int .u8 48))⟩,
  ⟨some 27, none, .mv (.t 26)⟩,
  ⟨some 28, some (27, false), .mv (.t 0)⟩,
  ⟨some 29, some (27, false), .mv (.t 5)⟩,
  ⟨some 30, some (27, false), .sx (.t 28) (.t 29)⟩,
  ⟨some 31, some (27, false), .bin .gtr (.t 30) (.c (.int .u8 57))⟩,
  ⟨some 32, none, .pick (.t 27) (.c (.bool true)) (.t 31)⟩]) (.kb [0, 4, 5, 19, 20, 32] (.cond (.t 32) (.seq (.reg [⟨some 2, none, .mv (.c (.nils))⟩,
  ⟨some 3, none, .mv (.c (.int .i64 6))⟩]) .ret) .skip))) (.kb [0, 4, 5, 19, 20] (.drw (.q ⟨some 33, none, .mv (.t 4)⟩ (.q ⟨some 36, none, .mv (.t 0)⟩ (.q ⟨some 37, none, .mv (.t 5)⟩ (.q ⟨some 38, none, .sx (.t 36) (.t 37)⟩ (.q ⟨some 39, none, .bin .sub (.t 38) (.c (.int .u8 48))⟩ (.q ⟨some 40, none, .cvi .u32 (.t 39)⟩ (.alt ⟨some 34, none, .bslice [.int .u32 0] 1 [(0, .c (.int .u32 10))]⟩ [] (.alt ⟨some 35, none, .call 95 [.t 33, .t 34]⟩ [] (.alt ⟨some 41, none, .bslice [.int .u32 0] 1 [(0, .t 40)]⟩ [] (.alt ⟨some 42, none, .call 94 [.t 35, .t 41]⟩ [] (.alt ⟨some 4, none, .mv (.t 42)⟩ [] (.done) (.stop)) (.stop)) (.stop)) (.alt ⟨some 41, none, .bslice [.int .u32 0] 1 [(0, .t 40)]⟩ [] (.alt ⟨some 35, none, .call 95 [.t 33, .t 34]⟩ [] (.alt ⟨some 42, none, .call 94 [.t 35, .t 41]⟩ [] (.alt ⟨some 4, none, .mv (.t 42)⟩ [] (.done) (.stop)) (.stop)) (.stop)) (.stop))) (.alt ⟨some 41, none, .bslice [.int .u32 0] 1 [(0, .t 40)]⟩ [] (.alt ⟨some 34, none, .bslice [.int .u32 0] 1 [(0, .c (.int .u32 10))]⟩ [] (.alt ⟨some 35, none, .call 95 [.t 33, .t 34]⟩ [] (.alt ⟨some 42, none, .call 94 [.t 35, .t 41]⟩ [] (.alt ⟨some 4, none, .mv (.t 42)⟩ [] (.done) (.stop)) (.stop)) (.stop)) (.stop)) (.stop))))))))))))))) (.kb [0, 4, 19, 20] (.reg [⟨some 43, none, .bin .add (.t 20) (.c (.int .i64 1))⟩,
  ⟨some 20, none, .mv (.t 43)⟩]))))))
def d86 : D := .seq (.reg [⟨some 2, none, .mv (.c (.nils))⟩,
  ⟨some 3, none, .mv (.c (.int .i64 0))⟩]) (.kb [0] (.seq (.seq (.reg [⟨some 6, none, .mv (.t 0)⟩,
  ⟨some 7, none, .bin .eql (.t 6) (.c (.str []))⟩,
  ⟨some 8, none, .mv (.t 7)⟩,
  ⟨some 9, some (8, false), .mv (.t 0)⟩,
  ⟨some 10, some (8, false), .sx (.t 9) (.c (.int .i64 0))⟩,
  ⟨some 11, some (8, false), .bin .eql (.t 10) (.c (.int .u8 48))⟩,
  ⟨some 12, some (8, false), .mv (.t 11)⟩,
  ⟨some 13, some (12, true), .mv (.t 0)⟩,
  ⟨some 14, some (12, true), .slen (.t 13)⟩,
  ⟨some 15, some (12, true), .bin .gtr (.t 14) (.c (.int .i64 1))⟩,
  ⟨some 16, some (8, false), .pick (.t 12) (.t 15) (.c (.bool false))⟩,
  ⟨some 17, none, .pick (.t 8) (.c (.bool true)) (.t 16)⟩]) (.kb [0, 17] (.cond (.t 17) (.seq (.reg [⟨some 2, none, .mv (.c (.nils))⟩,
  ⟨some 3, none, .mv (.c (.int .i64 6))⟩]) .ret) .skip))) (.kb [0] (.seq (.reg [⟨some 4, none, .mv (.c (.nils))⟩]) (.kb [0, 4] (.seq (.seq (.reg [⟨some 18, none, .mv (.t 0)⟩,
  ⟨some 19, none, .slen (.t 18)⟩,
  ⟨some 20, none, .mv (.c (.int .i64 0))⟩]) (.kb [0, 4, 19, 20] (.block 0 (.loop [0, 4, 19, 20] b86_0)))) (.kb [4] (.seq (.reg [⟨some 44, none, .mv (.t 4)⟩,
  ⟨some 2, none, .mv (.t 44)⟩,
  ⟨some 3, none, .mv (.c (.int .i64 0))⟩]) .ret))))))))
def f86 : FD := ⟨45, [.t 2, .t 3], d86, .cut⟩
theorem ok86 : compF planOf Tryd.prog 86 = some ⟨45, [.t 2, .t 3], d86.er⟩ := by kernel_rfl
def b87_0 : D := .seq (.seq (.reg [⟨some 8, none, .mv (.t 0)⟩,
  ⟨some 9, none, .call 49 [.t 8, .c (.str [41])]⟩,
  ⟨some 10, none, .un .not (.t 9)⟩,
  ⟨some 11, none, .mv (.t 10)⟩,
  ⟨some 12, some (11, false), .mv (.t 1)⟩,
  ⟨some 13, some (11, false), .bin .geq (.t 12) (.c (.int .i64 0))⟩,
  ⟨some 14, some (11, false), .mv (.t 13)⟩,
  ⟨some 15, some (14, true), .mv (.t 5)⟩,
  ⟨some 16, some (14, true), .llen (.t 15)⟩,
  ⟨some 17, some (14, true), .mv (.t 1)⟩,
  ⟨some 18, some (14, true), .bin .lss (.t 16) (.t 17)⟩,
  ⟨some 19, some (11, false), .pick (.t 14) (.t 18) (.c (.bool false))⟩,
  ⟨some 20, none, .pick (.t 11) (.c (.bool true)) (.t 19)⟩]) (.kb [0, 1, 5, 20] (.cond (.t 20) .skip (.exit 0)))) (.kb [0, 1, 5] (.block 1 (.seq (.seq (.reg [⟨some 21, none, .mv (.t 5)⟩,
  ⟨some 22, none, .llen (.t 21)⟩,
  ⟨some 23, none, .bin .gtr (.t 22) (.c (.int .i64 0))⟩]) (.kb [0, 1, 5, 23] (.cond (.t 23) (.reg [⟨some 24, none, .mv (.t 0)⟩,
  ⟨some 25, none, .call 29 [.t 24, .c (.str [44])]⟩]) .skip))) (.kb [0, 1, 5] (.seq (.reg [⟨some 26, none, .mv (.t 5)⟩,
  ⟨some 27, none, .mv (.t 0)⟩,
  ⟨some 28, none, .call 31 [.t 27]⟩,
  ⟨some 29, none, .bslice [.int .i64 0, .str [], .bool false, .nils, .nils, .int .i64 0, .int .i64 0] 1 [(0, .t 28)]⟩,
  ⟨some 30, none, .app 96 7 (.t 26) (.t 29)⟩,
  ⟨some 5, none, .mv (.t 30)⟩]) (.kb [0, 1, 5] (.seq (.reg [⟨some 31, none, .mv (.t 5)⟩,
  ⟨some 32, none, .llen (.t 31)⟩,
  ⟨some 33, none, .bin .gtr (.t 32) (.c (.int .i64 6))⟩]) (.kb [0, 1, 5, 33] (.cond (.t 33) (.reg [⟨some 34, none, .mv (.t 5)⟩,
  ⟨some 35, none, .mv (.t 5)⟩,
  ⟨some 36, none, .llen (.t 35)⟩,
  ⟨some 37, none, .bin .sub (.t 36) (.c (.int .i64 1))⟩,
  ⟨some 38, none, .ia 7 (.t 34) (.t 37)⟩,
  ⟨some 39, none, .fa 5 (.t 38)⟩,
  ⟨some 40, none, .lda 2 (.t 39)⟩,
  ⟨some 41, none, .build [.int .i64 0, .int .i64 0, .int .i64 0] [(0, 2, .t 40), (2, 1, .c (.int .i64 3))]⟩,
  ⟨some 42, none, .mki 62 (.t 41)⟩,
  ⟨none, none, .panic (.t 42)⟩]) .skip)))))))))
def d87 : D := .seq (.reg [⟨some 4, none, .mv (.c (.nils))⟩]) (.kb [0, 1] (.seq (.reg [⟨some 5, none, .mv (.c (.nils))⟩]) (.kb [0, 1, 5] (.seq (.reg [⟨some 6, none, .mv (.t 0)⟩,
  ⟨some 7, none, .call 29 [.t 6, .c (.str [40])]⟩]) (.kb [0, 1, 5] (.seq (.block 0 (.loop [0, 1, 5] b87_0)) (.kb [0, 1, 5] (.seq (.seq (.reg [⟨some 43, none, .mv (.t 1)⟩,
  ⟨some 44, none, .bin .geq (.t 43) (.c (.int .i64 0))⟩,
  ⟨some 45, none, .mv (.t 44)⟩,
  ⟨some 46, some (45, true), .mv (.t 5)⟩,
  ⟨some 47, some (45, true), .llen (.t 46)⟩,
  ⟨some 48, some (45, true), .mv (.t 1)⟩,
  ⟨some 49, some (45, true), .bin .gtr (.t 47) (.t 48)⟩,
  ⟨some 50, none, .pick (.t 45) (.t 49) (.c (.bool false))⟩]) (.kb [0, 1, 5, 50] (.cond (.t 50) (.reg [⟨some 51, none, .mv (.t 5)⟩,
  ⟨some 52, none, .mv (.t 1)⟩,
  ⟨some 53, none, .ia 7 (.t 51) (.t 52)⟩,
  ⟨some 54, none, .fa 5 (.t 53)⟩,
  ⟨some 55, none, .lda 2 (.t 54)⟩,
  ⟨some 56, none, .build [.int .i64 0, .int .i64 0, .int .i64 0] [(0, 2, .t 55), (2, 1, .c (.int .i64 21))]⟩,
  ⟨some 57, none, .mki 62 (.t 56)⟩,
  ⟨none, none, .panic (.t 57)⟩]) .skip))) (.kb [0, 5] (.seq (.reg [⟨some 58, none, .mv (.t 0)⟩,
  ⟨some 59, none, .call 29 [.t 58, .c (.str [41])]⟩]) (.kb [5] (.seq (.reg [⟨some 60, none, .mv (.t 5)⟩,
  ⟨some 4, none, .mv (.t 60)⟩]) .ret))))))))))))
def f87 : FD := ⟨61, [.t 4], d87, .cut⟩
theorem ok87 : compF planOf Tryd.prog 87 = some ⟨61, [.t 4], d87.er⟩ := by kernel_rfl
def d88 : D := .seq (.reg [⟨some 4, none, .new [.int .i64 0, .str [], .bool false, .nils, .nils, .int .i64 0, .int .i64 0]⟩]) (.kb [0, 1, 4] (.seq (.block 0 (.seq (.reg [⟨some 12, none, .mv (.t 0)⟩,
  ⟨some 13, none, .call 27 [.t 12, .c (.str [103, 101, 116])]⟩,
  ⟨some 11, none, .mv (.t 13)⟩]) (.kb [0, 1, 4, 11] (.cond (.t 11) (.seq (.reg [⟨some 14, none, .mv (.t 0)⟩,
  ⟨some 15, none, .call 87 [.t 14, .c (.int .i64 2)]⟩,
  ⟨some 5, none, .mv (.t 15)⟩]) (.kb [0, 1, 4, 5] (.seq (.reg [⟨some 16, none, .mv (.t 0)⟩,
  ⟨some 17, none, .mv (.t 1)⟩,
  ⟨some 18, none, .mv (.t 5)⟩,
  ⟨some 19, none, .call 55 [.t 16, .c (.int .i64 24), .t 17, .t 18]⟩,
  ⟨none, none, .st 7 (.t 4) (.t 19)⟩]) .ret))) (.seq (.reg [⟨some 21, none, .mv (.t 0)⟩,
  ⟨some 22, none, .call 27 [.t 21, .c (.str [115, 101, 116])]⟩,
  ⟨some 20, none, .mv (.t 22)⟩]) (.kb [0, 1, 4, 20] (.cond (.t 20) (.seq (.reg [⟨some 23, none, .mv (.t 0)⟩,
  ⟨some 24, none, .call 87 [.t 23, .c (.int .i64 3)]⟩,
  ⟨some 6, none, .mv (.t 24)⟩]) (.kb [0, 1, 4, 6] (.seq (.reg [⟨some 25, none, .mv (.t 0)⟩,
  ⟨some 26, none, .mv (.t 1)⟩,
  ⟨some 27, none, .mv (.t 6)⟩,
  ⟨some 28, none, .call 55 [.t 25, .c (.int .i64 25), .t 26, .t 27]⟩,
  ⟨none, none, .st 7 (.t 4) (.t 28)⟩]) .ret))) (.seq (.reg [⟨some 30, none, .mv (.t 0)⟩,
  ⟨some 31, none, .call 27 [.t 30, .c (.str [108, 101, 110])]⟩,
  ⟨some 29, none, .mv (.t 31)⟩]) (.kb [0, 1, 4, 29] (.cond (.t 29) (.seq (.reg [⟨some 32, none, .mv (.t 0)⟩,
  ⟨some 33, none, .call 87 [.t 32, .c (.int .i64 1)]⟩,
  ⟨some 7, none, .mv (.t 33)⟩]) (.kb [0, 1, 4, 7] (.seq (.reg [⟨some 34, none, .mv (.t 0)⟩,
  ⟨some 35, none, .mv (.t 1)⟩,
  ⟨some 36, none, .mv (.t 7)⟩,
  ⟨some 37, none, .call 55 [.t 34, .c (.int .i64 26), .t 35, .t 36]⟩,
  ⟨none, none, .st 7 (.t 4) (.t 37)⟩]) .ret))) (.seq (.reg [⟨some 39, none, .mv (.t 0)⟩,
  ⟨some 40, none, .call 27 [.t 39, .c (.str [102, 105, 108, 108])]⟩,
  ⟨some 38, none, .mv (.t 40)⟩]) (.kb [0, 1, 4, 38] (.cond (.t 38) (.seq (.reg [⟨some 41, none, .mv (.t 0)⟩,
  ⟨some 42, none, .call 29 [.t 41, .c (.str [40])]⟩]) (.kb [0, 1, 4] (.seq (.reg [⟨some 43, none, .mv (.t 0)⟩,
  ⟨some 44, none, .call 70 [.t 43]⟩,
  ⟨some 8, none, .mv (.t 44)⟩]) (.kb [0, 1, 4, 8] (.seq (.reg [⟨some 45, none, .mv (.t 0)⟩,
  ⟨some 46, none, .call 29 [.t 45, .c (.str [44])]⟩]) (.kb [0, 1, 4, 8] (.seq (.reg [⟨some 47, none, .mv (.t 0)⟩,
  ⟨some 48, none, .call 31 [.t 47]⟩,
  ⟨some 9, none, .new [.int .i64 0, .str [], .bool false, .nils, .nils, .int .i64 0, .int .i64 0]⟩,
  ⟨none, none, .st 7 (.t 9) (.t 48)⟩]) (.kb [0, 1, 4, 8, 9] (.seq (.reg [⟨some 49, none, .mv (.t 0)⟩,
  ⟨some 50, none, .call 29 [.t 49, .c (.str [41])]⟩]) (.kb [0, 1, 4, 8, 9] (.seq (.reg [⟨some 51, none, .mv (.t 0)⟩,
  ⟨some 52, none, .mv (.t 1)⟩,
  ⟨some 53, none, .lda 7 (.t 9)⟩,
  ⟨some 54, none, .bslice [.int .i64 0, .str [], .bool false, .nils, .nils, .int .i64 0, .int .i64 0] 1 [(0, .t 53)]⟩,
  ⟨some 55, none, .call 55 [.t 51, .c (.int .i64 27), .t 52, .t 54]⟩,
  ⟨some 10, none, .new [.int .i64 0, .str [], .bool false, .nils, .nils, .int .i64 0, .int .i64 0]⟩,
  ⟨none, none, .st 7 (.t 10) (.t 55)⟩]) (.kb [4, 8, 10] (.seq (.reg [⟨some 56, none, .mv (.t 8)⟩,
  ⟨some 57, none, .call 96 [.t 56]⟩,
  ⟨some 58, none, .fa 2 (.t 10)⟩,
  ⟨none, none, .st 2 (.t 58) (.t 57)⟩]) (.kb [4, 10] (.seq (.reg [⟨some 59, none, .lda 7 (.t 10)⟩,
  ⟨none, none, .st 7 (.t 4) (.t 59)⟩]) .ret))))))))))))))) .skip))))))))))))) (.kb [0, 4] (.seq (.reg [⟨some 60, none, .mv (.t 0)⟩,
  ⟨some 61, none, .call 51 [.t 60]⟩]) (.kb [4] (.seq (.reg [⟨some 62, none, .build [.int .i64 0, .str [], .bool false, .nils, .nils, .int .i64 0, .int .i64 0] []⟩,
  ⟨none, none, .st 7 (.t 4) (.t 62)⟩]) .ret))))))
def f88 : FD := ⟨63, [.c 4 (some 7)], d88, .cut⟩
theorem ok88 : compF planOf Tryd.prog 88 = some ⟨63, [.c 4 (some 7)], d88.er⟩ := by kernel_rfl
def b94_0 : D := .seq (.reg [⟨some 23, none, .bin .lss (.t 22) (.t 21)⟩]) (.kb [0, 1, 5, 6, 21, 22, 23] (.seq (.cond (.t 23) .skip (.exit 0)) (.kb [0, 1, 5, 6, 21, 22] (.seq (.block 1 (.seq (.reg [⟨some 24, none, .mv (.t 22)⟩,
  ⟨some 7, none, .mv (.t 24)⟩]) (.kb [0, 1, 5, 6, 7, 21, 22] (.seq (.reg [⟨some 8, none, .mv (.c (.int .u32 0))⟩]) (.kb [0, 1, 5, 6, 7, 8, 21, 22] (.seq (.seq (.reg [⟨some 25, none, .mv (.t 7)⟩,
  ⟨some 26, none, .mv (.t 1)⟩,
  ⟨some 27, none, .llen (.t 26)⟩,
  ⟨some 28, none, .bin .lss (.t 25) (.t 27)⟩]) (.kb [0, 1, 5, 6, 7, 8, 21, 22, 28] (.cond (.t 28) (.reg [⟨some 29, none, .mv (.t 1)⟩,
  ⟨some 30, none, .mv (.t 7)⟩,
  ⟨some 31, none, .ia 1 (.t 29) (.t 30)⟩,
  ⟨some 32, none, .ld (.t 31)⟩,
  ⟨some 8, none, .mv (.t 32)⟩]) .skip))) (.kb [0, 1, 5, 6, 7, 8, 21, 22] (.reg [⟨some 34, none, .mv (.t 5)⟩,
  ⟨some 35, none, .mv (.t 7)⟩,
  ⟨some 36, none, .mv (.t 0)⟩,
  ⟨some 37, none, .mv (.t 7)⟩,
  ⟨some 38, none, .ia 1 (.t 36) (.t 37)⟩,
  ⟨some 39, none, .ld (.t 38)⟩,
  ⟨some 40, none, .mv (.t 8)⟩,
  ⟨some 41, none, .mv (.t 6)⟩,
  ⟨some 42, none, .call 99 [.t 39, .t 40, .t 41]⟩,
  ⟨some 33, none, .mv (.t 42)⟩,
  ⟨some 43, none, .ext (.t 33) 0⟩,
  ⟨some 44, none, .ext (.t 33) 1⟩,
  ⟨some 45, none, .ia 1 (.t 34) (.t 35)⟩,
  ⟨none, none, .st 1 (.t 45) (.t 43)⟩,
  ⟨some 6, none, .mv (.t 44)⟩])))))))) (.kb [0, 1, 5, 6, 21, 22] (.reg [⟨some 46, none, .bin .add (.t 22) (.c (.int .i64 1))⟩,
  ⟨some 22, none, .mv (.t 46)⟩]))))))
def d94 : D := .seq (.reg [⟨some 4, none, .mv (.c (.nils))⟩]) (.kb [0, 1] (.seq (.seq (.reg [⟨some 9, none, .mv (.t 0)⟩,
  ⟨some 10, none, .llen (.t 9)⟩,
  ⟨some 11, none, .mv (.t 1)⟩,
  ⟨some 12, none, .llen (.t 11)⟩,
  ⟨some 13, none, .bin .lss (.t 10) (.t 12)⟩]) (.kb [0, 1, 13] (.cond (.t 13) (.reg [⟨some 14, none, .mv (.t 1)⟩,
  ⟨some 15, none, .mv (.t 0)⟩,
  ⟨some 0, none, .mv (.t 14)⟩,
  ⟨some 1, none, .mv (.t 15)⟩]) .skip))) (.kb [0, 1] (.seq (.reg [⟨some 16, none, .mv (.t 0)⟩,
  ⟨some 17, none, .llen (.t 16)⟩,
  ⟨some 18, none, .bin .add (.t 17) (.c (.int .i64 1))⟩,
  ⟨some 19, none, .mksl 4 [.int .u32 0] (.t 18) (.t 18)⟩,
  ⟨some 5, none, .mv (.t 19)⟩]) (.kb [0, 1, 5] (.seq (.reg [⟨some 6, none, .mv (.c (.int .u32 0))⟩]) (.kb [0, 1, 5, 6] (.seq (.seq (.reg [⟨some 20, none, .mv (.t 0)⟩,
  ⟨some 21, none, .llen (.t 20)⟩,
  ⟨some 22, none, .mv (.c (.int .i64 0))⟩]) (.kb [0, 1, 5, 6, 21, 22] (.block 0 (.loop [0, 1, 5, 6, 21, 22] b94_0)))) (.kb [0, 5, 6] (.seq (.reg [⟨some 47, none, .mv (.t 5)⟩,
  ⟨some 48, none, .mv (.t 0)⟩,
  ⟨some 49, none, .llen (.t 48)⟩,
  ⟨some 50, none, .mv (.t 6)⟩,
  ⟨some 51, none, .ia 1 (.t 47) (.t 49)⟩,
  ⟨none, none, .st 1 (.t 51) (.t 50)⟩]) (.kb [5] (.seq (.reg [⟨some 52, none, .mv (.t 5)⟩,
  ⟨some 53, none, .call 62 [.t 52]⟩,
  ⟨some 4, none, .mv (.t 53)⟩]) .ret))))))))))))
def f94 : FD := ⟨54, [.t 4], d94, .raw⟩
theorem ok94 : compF planOf Tryd.prog 94 = some ⟨54, [.t 4], d94.er⟩ := by kernel_rfl
def b95_0 : D := .seq (.reg [⟨some 29, none, .bin .lss (.t 28) (.t 27)⟩]) (.kb [1, 5, 26, 27, 28, 29] (.seq (.cond (.t 29) .skip (.exit 0)) (.kb [1, 5, 26, 27, 28] (.seq (.block 1 (.seq (.reg [⟨some 30, none, .mv (.t 28)⟩,
  ⟨some 31, none, .ia 1 (.t 26) (.t 28)⟩,
  ⟨some 32, none, .ld (.t 31)⟩,
  ⟨some 6, none, .mv (.t 30)⟩,
  ⟨some 7, none, .mv (.t 32)⟩]) (.kb [1, 5, 6, 7, 26, 27, 28] (.reg [⟨some 33, none, .mv (.t 5)⟩,
  ⟨some 34, none, .mv (.t 6)⟩,
  ⟨some 35, none, .mv (.t 7)⟩,
  ⟨some 36, none, .mv (.t 1)⟩,
  ⟨some 37, none, .call 100 [.t 33, .t 34, .t 35, .t 36]⟩])))) (.kb [1, 5, 26, 27, 28] (.reg [⟨some 38, none, .bin .add (.t 28) (.c (.int .i64 1))⟩,
  ⟨some 28, none, .mv (.t 38)⟩]))))))
def d95 : D := .seq (.reg [⟨some 4, none, .mv (.c (.nils))⟩]) (.kb [0, 1] (.seq (.reg [⟨some 8, none, .mv (.t 0)⟩,
  ⟨some 9, none, .call 62 [.t 8]⟩,
  ⟨some 10, none, .mv (.t 1)⟩,
  ⟨some 11, none, .call 62 [.t 10]⟩,
  ⟨some 0, none, .mv (.t 9)⟩,
  ⟨some 1, none, .mv (.t 11)⟩]) (.kb [0, 1] (.seq (.seq (.reg [⟨some 12, none, .mv (.t 0)⟩,
  ⟨some 13, none, .llen (.t 12)⟩,
  ⟨some 14, none, .bin .eql (.t 13) (.c (.int .i64 0))⟩,
  ⟨some 15, none, .mv (.t 14)⟩,
  ⟨some 16, some (15, false), .mv (.t 1)⟩,
  ⟨some 17, some (15, false), .llen (.t 16)⟩,
  ⟨some 18, some (15, false), .bin .eql (.t 17) (.c (.int .i64 0))⟩,
  ⟨some 19, none, .pick (.t 15) (.c (.bool true)) (.t 18)⟩]) (.kb [0, 1, 19] (.cond (.t 19) (.seq (.reg [⟨some 4, none, .mv (.c (.nils))⟩]) .ret) .skip))) (.kb [0, 1] (.seq (.reg [⟨some 20, none, .mv (.t 0)⟩,
  ⟨some 21, none, .llen (.t 20)⟩,
  ⟨some 22, none, .mv (.t 1)⟩,
  ⟨some 23, none, .llen (.t 22)⟩,
  ⟨some 24, none, .bin .add (.t 21) (.t 23)⟩,
  ⟨some 25, none, .mksl 4 [.int .u32 0] (.t 24) (.t 24)⟩,
  ⟨some 5, none, .mv (.t 25)⟩]) (.kb [0, 1, 5] (.seq (.seq (.reg [⟨some 26, none, .mv (.t 0)⟩,
  ⟨some 27, none, .llen (.t 26)⟩,
  ⟨some 28, none, .mv (.c (.int .i64 0))⟩]) (.kb [1, 5, 26, 27, 28] (.block 0 (.loop [1, 5, 26, 27, 28] b95_0)))) (.kb [5] (.seq (.reg [⟨some 39, none, .mv (.t 5)⟩,
  ⟨some 40, none, .call 62 [.t 39]⟩,
  ⟨some 4, none, .mv (.t 40)⟩]) .ret))))))))))
def f95 : FD := ⟨41, [.t 4], d95, .raw⟩
theorem ok95 : compF planOf Tryd.prog 95 = some ⟨41, [.t 4], d95.er⟩ := by kernel_rfl
def d96 : D := .seq (.reg [⟨some 2, none, .new [.bool false, .nils]⟩]) (.kb [0, 2] (.seq (.seq (.reg [⟨some 3, none, .mv (.t 0)⟩,
  ⟨some 4, none, .bin .lss (.t 3) (.c (.int .i64 0))⟩]) (.kb [0, 2, 4] (.cond (.t 4) (.seq (.reg [⟨some 5, none, .mv (.t 0)⟩,
  ⟨some 6, none, .bin .add (.t 5) (.c (.int .i64 1))⟩,
  ⟨some 7, none, .un .neg (.t 6)⟩,
  ⟨some 8, none, .cvi .u64 (.t 7)⟩,
  ⟨some 9, none, .bin .add (.t 8) (.c (.int .u64 1))⟩,
  ⟨some 10, none, .call 101 [.t 9]⟩,
  ⟨some 11, none, .call 43 [.c (.bool true), .t 10]⟩,
  ⟨none, none, .st 2 (.t 2) (.t 11)⟩]) .ret) .skip))) (.kb [0, 2] (.seq (.reg [⟨some 12, none, .mv (.t 0)⟩,
  ⟨some 13, none, .cvi .u64 (.t 12)⟩,
  ⟨some 14, none, .call 101 [.t 13]⟩,
  ⟨some 15, none, .call 43 [.c (.bool false), .t 14]⟩,
  ⟨none, none, .st 2 (.t 2) (.t 15)⟩]) .ret))))
def f96 : FD := ⟨16, [.c 2 (some 2)], d96, .all⟩
theorem ok96 : compF planOf Tryd.prog 96 = some ⟨16, [.c 2 (some 2)], d96.er⟩ := by kernel_rfl
def d99 : D := .seq (.reg [⟨some 6, none, .mv (.c (.int .u32 0))⟩,
  ⟨some 7, none, .mv (.c (.int .u32 0))⟩]) (.kb [0, 1, 2] (.seq (.reg [⟨some 9, none, .mv (.t 0)⟩,
  ⟨some 10, none, .cvi .u64 (.t 9)⟩,
  ⟨some 11, none, .mv (.t 1)⟩,
  ⟨some 12, none, .cvi .u64 (.t 11)⟩,
  ⟨some 13, none, .bin .add (.t 10) (.t 12)⟩,
  ⟨some 14, none, .mv (.t 2)⟩,
  ⟨some 15, none, .cvi .u64 (.t 14)⟩,
  ⟨some 16, none, .bin .add (.t 13) (.t 15)⟩,
  ⟨some 8, none, .mv (.t 16)⟩]) (.kb [8] (.seq (.reg [⟨some 17, none, .mv (.t 8)⟩,
  ⟨some 18, none, .cvi .u32 (.t 17)⟩,
  ⟨some 6, none, .mv (.t 18)⟩]) (.kb [6, 8] (.seq (.reg [⟨some 19, none, .mv (.t 8)⟩,
  ⟨some 20, none, .bin .shr (.t 19) (.c (.int .u64 32))⟩,
  ⟨some 21, none, .cvi .u32 (.t 20)⟩,
  ⟨some 7, none, .mv (.t 21)⟩]) .ret))))))
def f99 : FD := ⟨22, [.t 6, .t 7], d99, .all⟩
theorem ok99 : compF planOf Tryd.prog 99 = some ⟨22, [.t 6, .t 7], d99.er⟩ := by kernel_rfl
def b100_0 : D := .seq (.reg [⟨some 17, none, .bin .lss (.t 16) (.t 15)⟩]) (.kb [0, 1, 2, 3, 8, 14, 15, 16, 17] (.seq (.cond (.t 17) .skip (.exit 0)) (.kb [0, 1, 2, 3, 8, 14, 15, 16] (.seq (.block 1 (.seq (.reg [⟨some 18, none, .mv (.t 16)⟩,
  ⟨some 19, none, .ia 1 (.t 14) (.t 16)⟩,
  ⟨some 20, none, .ld (.t 19)⟩,
  ⟨some 9, none, .mv (.t 18)⟩,
  ⟨some 10, none, .mv (.t 20)⟩]) (.kb [0, 1, 2, 3, 8, 9, 10, 14, 15, 16] (.seq (.reg [⟨some 21, none, .mv (.t 2)⟩,
  ⟨some 22, none, .cvi .u64 (.t 21)⟩,
  ⟨some 23, none, .mv (.t 10)⟩,
  ⟨some 24, none, .cvi .u64 (.t 23)⟩,
  ⟨some 25, none, .bin .mul (.t 22) (.t 24)⟩,
  ⟨some 26, none, .mv (.t 0)⟩,
  ⟨some 27, none, .mv (.t 1)⟩,
  ⟨some 28, none, .mv (.t 9)⟩,
  ⟨some 29, none, .bin .add (.t 27) (.t 28)⟩,
  ⟨some 30, none, .ia 1 (.t 26) (.t 29)⟩,
  ⟨some 31, none, .ld (.t 30)⟩,
  ⟨some 32, none, .cvi .u64 (.t 31)⟩,
  ⟨some 33, none, .bin .add (.t 25) (.t 32)⟩,
  ⟨some 34, none, .mv (.t 8)⟩,
  ⟨some 35, none, .bin .add (.t 33) (.t 34)⟩,
  ⟨some 11, none, .mv (.t 35)⟩]) (.kb [0, 1, 2, 3, 9, 11, 14, 15, 16] (.reg [⟨some 36, none, .mv (.t 0)⟩,
  ⟨some 37, none, .mv (.t 1)⟩,
  ⟨some 38, none, .mv (.t 9)⟩,
  ⟨some 39, none, .bin .add (.t 37) (.t 38)⟩,
  ⟨some 40, none, .mv (.t 11)⟩,
  ⟨some 41, none, .cvi .u32 (.t 40)⟩,
  ⟨some 42, none, .mv (.t 11)⟩,
  ⟨some 43, none, .bin .shr (.t 42) (.c (.int .u64 32))⟩,
  ⟨some 44, none, .ia 1 (.t 36) (.t 39)⟩,
  ⟨none, none, .st 1 (.t 44) (.t 41)⟩,
  ⟨some 8, none, .mv (.t 43)⟩])))))) (.kb [0, 1, 2, 3, 8, 14, 15, 16] (.reg [⟨some 45, none, .bin .add (.t 16) (.c (.int .i64 1))⟩,
  ⟨some 16, none, .mv (.t 45)⟩]))))))
def b100_1 : D := .seq (.seq (.reg [⟨some 50, none, .mv (.t 8)⟩,
  ⟨some 51, none, .bin .gtr (.t 50) (.c (.int .u64 0))⟩]) (.kb [0, 8, 12, 51] (.cond (.t 51) .skip (.exit 2)))) (.kb [0, 8, 12] (.seq (.block 3 (.seq (.reg [⟨some 54, none, .mv (.t 0)⟩,
  ⟨some 55, none, .mv (.t 12)⟩,
  ⟨some 56, none, .ia 1 (.t 54) (.t 55)⟩,
  ⟨some 57, none, .ld (.t 56)⟩,
  ⟨some 58, none, .cvi .u64 (.t 57)⟩,
  ⟨some 59, none, .mv (.t 8)⟩,
  ⟨some 60, none, .bin .add (.t 58) (.t 59)⟩,
  ⟨some 13, none, .mv (.t 60)⟩]) (.kb [0, 12, 13] (.reg [⟨some 61, none, .mv (.t 0)⟩,
  ⟨some 62, none, .mv (.t 12)⟩,
  ⟨some 63, none, .mv (.t 13)⟩,
  ⟨some 64, none, .cvi .u32 (.t 63)⟩,
  ⟨some 65, none, .mv (.t 13)⟩,
  ⟨some 66, none, .bin .shr (.t 65) (.c (.int .u64 32))⟩,
  ⟨some 67, none, .ia 1 (.t 61) (.t 62)⟩,
  ⟨none, none, .st 1 (.t 67) (.t 64)⟩,
  ⟨some 8, none, .mv (.t 66)⟩])))) (.kb [0, 8, 12] (.reg [⟨some 52, none, .mv (.t 12)⟩,
  ⟨some 53, none, .bin .add (.t 52) (.c (.int .i64 1))⟩,
  ⟨some 12, none, .mv (.t 53)⟩]))))
def d100 : D := .seq (.reg [⟨some 8, none, .mv (.c (.int .u64 0))⟩]) (.kb [0, 1, 2, 3, 8] (.seq (.seq (.reg [⟨some 14, none, .mv (.t 3)⟩,
  ⟨some 15, none, .llen (.t 14)⟩,
  ⟨some 16, none, .mv (.c (.int .i64 0))⟩]) (.kb [0, 1, 2, 3, 8, 14, 15, 16] (.block 0 (.loop [0, 1, 2, 3, 8, 14, 15, 16] b100_0)))) (.kb [0, 1, 3, 8] (.seq (.reg [⟨some 46, none, .mv (.t 1)⟩,
  ⟨some 47, none, .mv (.t 3)⟩,
  ⟨some 48, none, .llen (.t 47)⟩,
  ⟨some 49, none, .bin .add (.t 46) (.t 48)⟩,
  ⟨some 12, none, .mv (.t 49)⟩]) (.kb [0, 8, 12] (.block 2 (.loop [0, 8, 12] b100_1)))))))
def f100 : FD := ⟨68, [], d100, .raw⟩
theorem ok100 : compF planOf Tryd.prog 100 = some ⟨68, [], d100.er⟩ := by kernel_rfl
def d101 : D := .seq (.reg [⟨some 2, none, .mv (.c (.nils))⟩]) (.kb [0] (.seq (.reg [⟨some 3, none, .mv (.t 0)⟩,
  ⟨some 4, none, .cvi .u32 (.t 3)⟩,
  ⟨some 5, none, .mv (.t 0)⟩,
  ⟨some 6, none, .bin .shr (.t 5) (.c (.int .u64 32))⟩,
  ⟨some 7, none, .cvi .u32 (.t 6)⟩,
  ⟨some 8, none, .bslice [.int .u32 0] 2 [(0, .t 4), (1, .t 7)]⟩,
  ⟨some 9, none, .call 67 [.t 8]⟩,
  ⟨some 2, none, .mv (.t 9)⟩]) .ret))
def f101 : FD := ⟨10, [.t 2], d101, .raw⟩
theorem ok101 : compF planOf Tryd.prog 101 = some ⟨10, [.t 2], d101.er⟩ := by kernel_rfl
def T : FuncId → Option FD
  | 7 => some f7
  | 8 => some f8
  | 9 => some f9
  | 10 => some f10
  | 11 => some f11
  | 12 => some f12
  | 15 => some f15
  | 16 => some f16
  | 17 => some f17
  | 18 => some f18
  | 19 => some f19
  | 21 => some f21
  | 22 => some f22
  | 23 => some f23
  | 24 => some f24
  | 25 => some f25
  | 26 => some f26
  | 27 => some f27
  | 28 => some f28
  | 29 => some f29
  | 30 => some f30
  | 31 => some f31
  | 32 => some f32
  | 33 => some f33
  | 38 => some f38
  | 39 => some f39
  | 40 => some f40
  | 41 => some f41
  | 42 => some f42
  | 43 => some f43
  | 44 => some f44
  | 45 => some f45
  | 46 => some f46
  | 47 => some f47
  | 48 => some f48
  | 49 => some f49
  | 50 => some f50
  | 51 => some f51
  | 52 => some f52
  | 53 => some f53
  | 54 => some f54
  | 55 => some f55
  | 56 => some f56
  | 57 => some f57
  | 61 => some f61
  | 62 => some f62
  | 63 => some f63
  | 64 => some f64
  | 65 => some f65
  | 66 => some f66
  | 67 => some f67
  | 68 => some f68
  | 69 => some f69
  | 70 => some f70
  | 71 => some f71
  | 72 => some f72
  | 76 => some f76
  | 77 => some f77
  | 78 => some f78
  | 79 => some f79
  | 80 => some f80
  | 81 => some f81
  | 86 => some f86
  | 87 => some f87
  | 88 => some f88
  | 94 => some f94
  | 95 => some f95
  | 96 => some f96
  | 99 => some f99
  | 100 => some f100
  | 101 => some f101
  | _ => none
theorem T_ok : ∀ k fd, T k = some fd → compF planOf Tryd.prog k = some ⟨fd.nt, fd.res, fd.body.er⟩ ∧ hasBody Tryd.prog k = true := by
  intro k fd h
  unfold T at h
  split at h <;> simp only [Option.some.injEq, reduceCtorEq] at h <;> subst h
  · exact ⟨ok7, by kernel_rfl⟩
  · exact ⟨ok8, by kernel_rfl⟩
  · exact ⟨ok9, by kernel_rfl⟩
  · exact ⟨ok10, by kernel_rfl⟩
  · exact ⟨ok11, by kernel_rfl⟩
  · exact ⟨ok12, by kernel_rfl⟩
  · exact ⟨ok15, by kernel_rfl⟩
  · exact ⟨ok16, by kernel_rfl⟩
  · exact ⟨ok17, by kernel_rfl⟩
  · exact ⟨ok18, by kernel_rfl⟩
  · exact ⟨ok19, by kernel_rfl⟩
  · exact ⟨ok21, by kernel_rfl⟩
  · exact ⟨ok22, by kernel_rfl⟩
  · exact ⟨ok23, by kernel_rfl⟩
  · exact ⟨ok24, by kernel_rfl⟩
  · exact ⟨ok25, by kernel_rfl⟩
  · exact ⟨ok26, by kernel_rfl⟩
  · exact ⟨ok27, by kernel_rfl⟩
  · exact ⟨ok28, by kernel_rfl⟩
  · exact ⟨ok29, by kernel_rfl⟩
  · exact ⟨ok30, by kernel_rfl⟩
  · exact ⟨ok31, by kernel_rfl⟩
  · exact ⟨ok32, by kernel_rfl⟩
  · exact ⟨ok33, by kernel_rfl⟩
  · exact ⟨ok38, by kernel_rfl⟩
  · exact ⟨ok39, by kernel_rfl⟩
  · exact ⟨ok40, by kernel_rfl⟩
  · exact ⟨ok41, by kernel_rfl⟩
  · exact ⟨ok42, by kernel_rfl⟩
  · exact ⟨ok43, by kernel_rfl⟩
  · exact ⟨ok44, by kernel_rfl⟩
  · exact ⟨ok45, by kernel_rfl⟩
  · exact ⟨ok46, by kernel_rfl⟩
  · exact ⟨ok47, by kernel_rfl⟩
  · exact ⟨ok48, by kernel_rfl⟩
  · exact ⟨ok49, by kernel_rfl⟩
  · exact ⟨ok50, by kernel_rfl⟩
  · exact ⟨ok51, by kernel_rfl⟩
  · exact ⟨ok52, by kernel_rfl⟩
  · exact ⟨ok53, by kernel_rfl⟩
  · exact ⟨ok54, by kernel_rfl⟩
  · exact ⟨ok55, by kernel_rfl⟩
  · exact ⟨ok56, by kernel_rfl⟩
  · exact ⟨ok57, by kernel_rfl⟩
  · exact ⟨ok61, by kernel_rfl⟩
  · exact ⟨ok62, by kernel_rfl⟩
  · exact ⟨ok63, by kernel_rfl⟩
  · exact ⟨ok64, by kernel_rfl⟩
  · exact ⟨ok65, by kernel_rfl⟩
  · exact ⟨ok66, by kernel_rfl⟩
  · exact ⟨ok67, by kernel_rfl⟩
  · exact ⟨ok68, by kernel_rfl⟩
  · exact ⟨ok69, by kernel_rfl⟩
  · exact ⟨ok70, by kernel_rfl⟩
  · exact ⟨ok71, by kernel_rfl⟩
  · exact ⟨ok72, by kernel_rfl⟩
  · exact ⟨ok76, by kernel_rfl⟩
  · exact ⟨ok77, by kernel_rfl⟩
  · exact ⟨ok78, by kernel_rfl⟩
  · exact ⟨ok79, by kernel_rfl⟩
  · exact ⟨ok80, by kernel_rfl⟩
  · exact ⟨ok81, by kernel_rfl⟩
  · exact ⟨ok86, by kernel_rfl⟩
  · exact ⟨ok87, by kernel_rfl⟩
  · exact ⟨ok88, by kernel_rfl⟩
  · exact ⟨ok94, by kernel_rfl⟩
  · exact ⟨ok95, by kernel_rfl⟩
  · exact ⟨ok96, by kernel_rfl⟩
  · exact ⟨ok99, by kernel_rfl⟩
  · exact ⟨ok100, by kernel_rfl⟩
  · exact ⟨ok101, by kernel_rfl⟩
end Go.Proofs.YtmkgmjdbgjiehaaDoor
