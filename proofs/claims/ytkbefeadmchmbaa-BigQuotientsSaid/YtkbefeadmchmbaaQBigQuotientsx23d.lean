-- written by wip/wprint, a program of this session
import Derived.Test.YtkbefeadmchmbaaQBigQuotientsx0
import Derived.Test.YtkbefeadmchmbaaQBigQuotientsx1
import Derived.Test.YtkbefeadmchmbaaQBigQuotientsx8
import Derived.Test.YtkbefeadmchmbaaQBigQuotientsx12
import Derived.Test.YtkbefeadmchmbaaQBigQuotientsx16
import Derived.Test.YtkbefeadmchmbaaQBigQuotientsx18
import Derived.Test.YtkbefeadmchmbaaQBigQuotientsx19
import Derived.Test.YtkbefeadmchmbaaQBigQuotientsx20
import Derived.Test.YtkbefeadmchmbaaQBigQuotientsx21
import Derived.Test.YtkbefeadmchmbaaQBigQuotientsx22
namespace Go.Proofs.Ytkbefeadmchmbaa.QBigQuotients
open Go.RowKit Go.Proofs.YtkbefeadmchmbaaW.PrintWords Go.Proofs.YtkbefeadmchmbaaW.PrintLast Go.Proofs.YtkbefeadmchmbaaW.PrintMore
open Go.Proofs.YtkbefeadmchmbaaW.PrintWords.Kd renaming R_alloc → qa, R_drewN → qn, R_drew → qd
open Go.Proofs.YtkbefeadmchmbaaW.PrintWords renaming below_alloc → ba, pw_below_drewN → bn, below_drew1 → bd
attribute [local go_sem] max2_int min2_int max_two min_two max_three min_three max_four min_four   -- for this text's walks alone
set_option linter.unusedVariables false
set_option linter.unusedSimpArgs false

/-! ### whetstonelaw02_BigQuotients: function 3 -/
def whetstonelaw02_BigQuotients.j0 : Nat → Bool → Bool → List Int → Bool → List Int → Option (Bool)
 | 0, _, _, _, _, _ => none
 | k + 1, x26, x853000, x853001, x854000, x854001 => if x26 = true then ((whetstonelaw02_signed.f k).bind fun t856 => (some t856)) else ((big_DivMod.f k x853000 x853001 x854000 x854001).bind fun bt857 => ((whetstonelaw02_of.f k x853000 x853001).bind fun bt868 => ((whetstonelaw02_of.f k x854000 x854001).bind fun bt872 => ((whetstoneref02_DivMod.f k bt868.1 bt868.2 bt872.1 bt872.2).bind fun bt876 => ((big_Floor.f k x853000 x853001 x854000 x854001).bind fun bt887 => ((whetstonelaw02_of.f k x853000 x853001).bind fun bt893 => ((whetstonelaw02_of.f k x854000 x854001).bind fun bt897 => ((whetstoneref02_Floor.f k bt893.1 bt893.2 bt897.1 bt897.2).bind fun bt901 => ((big_Ceil.f k x853000 x853001 x854000 x854001).bind fun bt907 => ((whetstonelaw02_of.f k x853000 x853001).bind fun bt913 => ((whetstonelaw02_of.f k x854000 x854001).bind fun bt917 => ((whetstoneref02_Ceil.f k bt913.1 bt913.2 bt917.1 bt917.2).bind fun bt921 => ((whetstonelaw02_signed.f k).bind fun t927 => (if t927 = true then ((whetstonelaw02_same.f k bt857.1 bt857.2.1 bt876.1 bt876.2.1).bind fun t928 => (if t928 = true then ((whetstonelaw02_same.f k bt857.2.2.1 bt857.2.2.2.1 bt876.2.2.1 bt876.2.2.2.1).bind fun t929 => (if t929 = true then (if bt857.2.2.2.2 = bt876.2.2.2.2 then ((whetstonelaw02_same.f k bt887.1 bt887.2.1 bt901.1 bt901.2.1).bind fun t930 => (if t930 = true then (if bt887.2.2 = bt901.2.2 then ((whetstonelaw02_same.f k bt907.1 bt907.2.1 bt921.1 bt921.2.1).bind fun t931 => (if t931 = true then (some (bt907.2.2 == bt921.2.2)) else (none))) else (none)) else (none))) else (none)) else (none))) else (none))) else (none)))))))))))))))
def whetstonelaw02_BigQuotients.f (k : Nat) (a0_0 : Bool) (l0_1 : List Int) (a1_0 : Bool) (l1_1 : List Int) : Option (Bool) := (whetstonelaw02_small.f a0_0 l0_1).bind fun t854 => (if t854 = true then ((whetstonelaw02_small.f a1_0 l1_1).bind fun t855 => (whetstonelaw02_BigQuotients.j0 k (!t855) a0_0 l0_1 a1_0 l1_1)) else (whetstonelaw02_BigQuotients.j0 k true a0_0 l0_1 a1_0 l1_1))
theorem whetstonelaw02_BigQuotients.mono_l : ∀ k, (∀ y0 y1 y2 y3 y4, LeO (whetstonelaw02_BigQuotients.j0 k y0 y1 y2 y3 y4) (whetstonelaw02_BigQuotients.j0 (k + 1) y0 y1 y2 y3 y4))
 | 0 => fun _ _ _ _ _ r h => by simp [whetstonelaw02_BigQuotients.j0] at h
 | k + 1 => by
  have ih0 := whetstonelaw02_BigQuotients.mono_l k
  ·intro y0 y1 y2 y3 y4
   unfold whetstonelaw02_BigQuotients.j0
   repeat' with_reducible first | exact ih0 _ _ _ _ _ | exact big_Ceil.mono _ _ _ _ _ | exact big_DivMod.mono _ _ _ _ _ | exact big_Floor.mono _ _ _ _ _ | exact whetstonelaw02_of.mono _ _ _ | exact whetstonelaw02_same.mono _ _ _ _ _ | exact whetstonelaw02_signed.mono _ | exact whetstoneref02_Ceil.mono _ _ _ _ _ | exact whetstoneref02_DivMod.mono _ _ _ _ _ | exact whetstoneref02_Floor.mono _ _ _ _ _ | exact LeO.refl _ | exact LeO.none _ | refine LeO.ite ?_ ?_ | refine LeO.bind ?_ (fun _ => ?_)
theorem whetstonelaw02_BigQuotients.mono : ∀ a0 a1 a2 a3 k, LeO (whetstonelaw02_BigQuotients.f k a0 a1 a2 a3) (whetstonelaw02_BigQuotients.f (k + 1) a0 a1 a2 a3) := by
 intro a0 a1 a2 a3 k; have ih0 := whetstonelaw02_BigQuotients.mono_l k
 unfold whetstonelaw02_BigQuotients.f
 repeat' with_reducible first | exact ih0 _ _ _ _ _ | exact big_Ceil.mono _ _ _ _ _ | exact big_DivMod.mono _ _ _ _ _ | exact big_Floor.mono _ _ _ _ _ | exact whetstonelaw02_of.mono _ _ _ | exact whetstonelaw02_same.mono _ _ _ _ _ | exact whetstonelaw02_signed.mono _ | exact whetstoneref02_Ceil.mono _ _ _ _ _ | exact whetstoneref02_DivMod.mono _ _ _ _ _ | exact whetstoneref02_Floor.mono _ _ _ _ _ | exact LeO.refl _ | exact LeO.none _ | refine LeO.ite ?_ ?_ | refine LeO.bind ?_ (fun _ => ?_)
def whetstonelaw02_BigQuotients.T4 : Bool × List (List Nat × List Nat) := (true, [([], []), ([0], [0]), ([], []), ([2, 1], [2]), ([1, 3, 3], [1, 3]), ([4], [4]), ([5], [5]), ([5], [5]), ([5], [5]), ([], []), ([], []), ([9, 6, 4, 0, 1, 2, 3, 4, 5, 6, 9, 10], [6, 9]), ([10, 7, 11, 0, 1, 2, 3, 4, 5, 6, 7, 9, 10, 11], [7, 10]), ([8, 12, 0, 1, 2, 3, 4, 5, 6, 7, 8, 9, 10, 11, 12], [8])])
def whetstonelaw02_BigQuotients.B4 : List Nat := [0, 1, 0, 7, 15, 31, 63, 63, 63, 0, 0, 1663, 3839, 8191]
theorem whetstonelaw02_BigQuotients.tab4 : rtab .any (opsOf Try.f3 4) = whetstonelaw02_BigQuotients.T4 := by kernel_rfl
theorem whetstonelaw02_BigQuotients.bits4 : waitsOk whetstonelaw02_BigQuotients.T4.2 whetstonelaw02_BigQuotients.B4 = true := by kernel_rfl
def whetstonelaw02_BigQuotients.T6 : Bool × List (List Nat × List Nat) := (true, [([], []), ([0], [0]), ([], []), ([2, 1], [2]), ([1, 3, 3], [1, 3]), ([4], [4]), ([5], [5]), ([5], [5]), ([], []), ([8, 6, 4, 0, 1, 2, 3, 4, 5, 6, 8], [6, 8]), ([7, 9, 0, 1, 2, 3, 4, 5, 6, 7, 8, 9], [7])])
def whetstonelaw02_BigQuotients.B6 : List Nat := [0, 1, 0, 7, 15, 31, 63, 63, 0, 383, 1023]
theorem whetstonelaw02_BigQuotients.tab6 : rtab .any (opsOf Try.f3 6) = whetstonelaw02_BigQuotients.T6 := by kernel_rfl
theorem whetstonelaw02_BigQuotients.bits6 : waitsOk whetstonelaw02_BigQuotients.T6.2 whetstonelaw02_BigQuotients.B6 = true := by kernel_rfl
def whetstonelaw02_BigQuotients.T8 : Bool × List (List Nat × List Nat) := (true, [([], []), ([0], [0]), ([], []), ([2, 1], [2]), ([1, 3, 3], [1, 3]), ([4], [4]), ([5], [5]), ([5], [5]), ([], []), ([8, 6, 4, 0, 1, 2, 3, 4, 5, 6, 8], [6, 8]), ([7, 9, 0, 1, 2, 3, 4, 5, 6, 7, 8, 9], [7])])
def whetstonelaw02_BigQuotients.B8 : List Nat := [0, 1, 0, 7, 15, 31, 63, 63, 0, 383, 1023]
theorem whetstonelaw02_BigQuotients.tab8 : rtab .any (opsOf Try.f3 8) = whetstonelaw02_BigQuotients.T8 := by kernel_rfl
theorem whetstonelaw02_BigQuotients.bits8 : waitsOk whetstonelaw02_BigQuotients.T8.2 whetstonelaw02_BigQuotients.B8 = true := by kernel_rfl
end Go.Proofs.Ytkbefeadmchmbaa.QBigQuotients
