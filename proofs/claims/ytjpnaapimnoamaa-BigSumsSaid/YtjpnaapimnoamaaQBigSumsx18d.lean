-- written by wip/wprint, a program of this session
import Derived.Test.YtjpnaapimnoamaaQBigSumsx0
import Derived.Test.YtjpnaapimnoamaaQBigSumsx1
import Derived.Test.YtjpnaapimnoamaaQBigSumsx4
import Derived.Test.YtjpnaapimnoamaaQBigSumsx9
import Derived.Test.YtjpnaapimnoamaaQBigSumsx10
import Derived.Test.YtjpnaapimnoamaaQBigSumsx14
import Derived.Test.YtjpnaapimnoamaaQBigSumsx15
import Derived.Test.YtjpnaapimnoamaaQBigSumsx16
import Derived.Test.YtjpnaapimnoamaaQBigSumsx17
namespace Go.Proofs.Ytjpnaapimnoamaa.QBigSums
open Go.RowKit Go.Proofs.YtjpnaapimnoamaaW.PrintWords Go.Proofs.YtjpnaapimnoamaaW.PrintLast Go.Proofs.YtjpnaapimnoamaaW.PrintMore
open Go.Proofs.YtjpnaapimnoamaaW.PrintWords.Kd renaming R_alloc → qa, R_drewN → qn, R_drew → qd
open Go.Proofs.YtjpnaapimnoamaaW.PrintWords renaming below_alloc → ba, pw_below_drewN → bn, below_drew1 → bd
attribute [local go_sem] max2_int min2_int max_two min_two max_three min_three max_four min_four   -- for this text's walks alone
set_option linter.unusedVariables false
set_option linter.unusedSimpArgs false

/-! ### whetstonelaw02_BigSums: function 4 -/
def whetstonelaw02_BigSums.j0 : Nat → Bool → Bool → List Int → Bool → List Int → Option (Bool)
 | 0, _, _, _, _, _ => none
 | k + 1, x14, x726000, x726001, x727000, x727001 => if x14 = true then ((whetstonelaw02_signed.f k).bind fun t729 => (some t729)) else ((whetstonelaw02_of.f k x726000 x726001).bind fun bt730 => ((whetstonelaw02_of.f k x727000 x727001).bind fun bt734 => ((whetstonelaw02_signed.f k).bind fun t740 => (if t740 = true then ((big_Add.f k x726000 x726001 x727000 x727001).bind fun bt741 => ((whetstoneref02_Add.f k bt730.1 bt730.2 bt734.1 bt734.2).bind fun bt745 => ((whetstonelaw02_same.f k bt741.1 bt741.2 bt745.1 bt745.2).bind fun t749 => (if t749 = true then ((big_Sub.f k x726000 x726001 x727000 x727001).bind fun bt750 => ((whetstoneref02_Sub.f k bt730.1 bt730.2 bt734.1 bt734.2).bind fun bt754 => ((whetstonelaw02_same.f k bt750.1 bt750.2 bt754.1 bt754.2).bind fun t758 => (if t758 = true then ((big_Cmp.f k x726000 x726001 x727000 x727001).bind fun t759 => ((whetstoneref02_Cmp.f k bt730.1 bt730.2 bt734.1 bt734.2).bind fun t760 => (if t759 = t760 then ((big_Sign.f k x726000 x726001).bind fun t761 => ((whetstoneref02_Sign.f k bt730.1 bt730.2).bind fun t762 => (if t761 = t762 then ((big_Neg.f k x726000 x726001).bind fun bt763 => ((whetstoneref02_Neg.f k bt730.1 bt730.2).bind fun bt767 => ((whetstonelaw02_same.f k bt763.1 bt763.2 bt767.1 bt767.2).bind fun t771 => (if t771 = true then ((big_Abs.f k x726000 x726001).bind fun bt772 => ((whetstoneref02_Abs.f k bt730.1 bt730.2).bind fun bt776 => ((whetstonelaw02_same.f k bt772.1 bt772.2 bt776.1 bt776.2).bind fun t780 => (if t780 = true then ((big_Norm.f k x726000 x726001).bind fun bt781 => ((whetstonelaw02_same.f k bt781.1 bt781.2 bt730.1 bt730.2).bind fun t785 => (some t785))) else (none))))) else (none))))) else (none)))) else (none)))) else (none))))) else (none))))) else (none)))))
def whetstonelaw02_BigSums.f (k : Nat) (a0_0 : Bool) (l0_1 : List Int) (a1_0 : Bool) (l1_1 : List Int) : Option (Bool) := (whetstonelaw02_small.f a0_0 l0_1).bind fun t727 => (if t727 = true then ((whetstonelaw02_small.f a1_0 l1_1).bind fun t728 => (whetstonelaw02_BigSums.j0 k (!t728) a0_0 l0_1 a1_0 l1_1)) else (whetstonelaw02_BigSums.j0 k true a0_0 l0_1 a1_0 l1_1))
theorem whetstonelaw02_BigSums.mono_l : ∀ k, (∀ y0 y1 y2 y3 y4, LeO (whetstonelaw02_BigSums.j0 k y0 y1 y2 y3 y4) (whetstonelaw02_BigSums.j0 (k + 1) y0 y1 y2 y3 y4))
 | 0 => fun _ _ _ _ _ r h => by simp [whetstonelaw02_BigSums.j0] at h
 | k + 1 => by
  have ih0 := whetstonelaw02_BigSums.mono_l k
  ·intro y0 y1 y2 y3 y4
   unfold whetstonelaw02_BigSums.j0
   repeat' first
   | (with_reducible exact ih0 _ _ _ _ _)
   | (with_reducible exact big_Abs.mono _ _ _)
   | (with_reducible exact big_Add.mono _ _ _ _ _)
   | (with_reducible exact big_Cmp.mono _ _ _ _ _)
   | (with_reducible exact big_Neg.mono _ _ _)
   | (with_reducible exact big_Norm.mono _ _ _)
   | (with_reducible exact big_Sign.mono _ _ _)
   | (with_reducible exact big_Sub.mono _ _ _ _ _)
   | (with_reducible exact whetstonelaw02_of.mono _ _ _)
   | (with_reducible exact whetstonelaw02_same.mono _ _ _ _ _)
   | (with_reducible exact whetstonelaw02_signed.mono _)
   | (with_reducible exact whetstoneref02_Abs.mono _ _ _)
   | (with_reducible exact whetstoneref02_Add.mono _ _ _ _ _)
   | (with_reducible exact whetstoneref02_Cmp.mono _ _ _ _ _)
   | (with_reducible exact whetstoneref02_Neg.mono _ _ _)
   | (with_reducible exact whetstoneref02_Sign.mono _ _ _)
   | (with_reducible exact whetstoneref02_Sub.mono _ _ _ _ _)
   | (with_reducible exact LeO.refl _)
   | (with_reducible exact LeO.none _)
   | (with_reducible refine LeO.ite ?_ ?_)
   | (with_reducible refine LeO.bind ?_ (fun _ => ?_))
   | exact ih0 _ _ _ _ _
   | exact big_Abs.mono _ _ _
   | exact big_Add.mono _ _ _ _ _
   | exact big_Cmp.mono _ _ _ _ _
   | exact big_Neg.mono _ _ _
   | exact big_Norm.mono _ _ _
   | exact big_Sign.mono _ _ _
   | exact big_Sub.mono _ _ _ _ _
   | exact whetstonelaw02_of.mono _ _ _
   | exact whetstonelaw02_same.mono _ _ _ _ _
   | exact whetstonelaw02_signed.mono _
   | exact whetstoneref02_Abs.mono _ _ _
   | exact whetstoneref02_Add.mono _ _ _ _ _
   | exact whetstoneref02_Cmp.mono _ _ _ _ _
   | exact whetstoneref02_Neg.mono _ _ _
   | exact whetstoneref02_Sign.mono _ _ _
   | exact whetstoneref02_Sub.mono _ _ _ _ _
   | exact LeO.none _
   | refine LeO.ite ?_ ?_
   | refine LeO.bind ?_ (fun _ => ?_)
theorem whetstonelaw02_BigSums.mono : ∀ a0 a1 a2 a3 k, LeO (whetstonelaw02_BigSums.f k a0 a1 a2 a3) (whetstonelaw02_BigSums.f (k + 1) a0 a1 a2 a3) := by
 intro a0 a1 a2 a3 k
 have ih0 := whetstonelaw02_BigSums.mono_l k
 unfold whetstonelaw02_BigSums.f
 repeat' first
   | (with_reducible exact ih0 _ _ _ _ _)
   | (with_reducible exact big_Abs.mono _ _ _)
   | (with_reducible exact big_Add.mono _ _ _ _ _)
   | (with_reducible exact big_Cmp.mono _ _ _ _ _)
   | (with_reducible exact big_Neg.mono _ _ _)
   | (with_reducible exact big_Norm.mono _ _ _)
   | (with_reducible exact big_Sign.mono _ _ _)
   | (with_reducible exact big_Sub.mono _ _ _ _ _)
   | (with_reducible exact whetstonelaw02_of.mono _ _ _)
   | (with_reducible exact whetstonelaw02_same.mono _ _ _ _ _)
   | (with_reducible exact whetstonelaw02_signed.mono _)
   | (with_reducible exact whetstoneref02_Abs.mono _ _ _)
   | (with_reducible exact whetstoneref02_Add.mono _ _ _ _ _)
   | (with_reducible exact whetstoneref02_Cmp.mono _ _ _ _ _)
   | (with_reducible exact whetstoneref02_Neg.mono _ _ _)
   | (with_reducible exact whetstoneref02_Sign.mono _ _ _)
   | (with_reducible exact whetstoneref02_Sub.mono _ _ _ _ _)
   | (with_reducible exact LeO.refl _)
   | (with_reducible exact LeO.none _)
   | (with_reducible refine LeO.ite ?_ ?_)
   | (with_reducible refine LeO.bind ?_ (fun _ => ?_))
   | exact ih0 _ _ _ _ _
   | exact big_Abs.mono _ _ _
   | exact big_Add.mono _ _ _ _ _
   | exact big_Cmp.mono _ _ _ _ _
   | exact big_Neg.mono _ _ _
   | exact big_Norm.mono _ _ _
   | exact big_Sign.mono _ _ _
   | exact big_Sub.mono _ _ _ _ _
   | exact whetstonelaw02_of.mono _ _ _
   | exact whetstonelaw02_same.mono _ _ _ _ _
   | exact whetstonelaw02_signed.mono _
   | exact whetstoneref02_Abs.mono _ _ _
   | exact whetstoneref02_Add.mono _ _ _ _ _
   | exact whetstoneref02_Cmp.mono _ _ _ _ _
   | exact whetstoneref02_Neg.mono _ _ _
   | exact whetstoneref02_Sign.mono _ _ _
   | exact whetstoneref02_Sub.mono _ _ _ _ _
   | exact LeO.none _
   | refine LeO.ite ?_ ?_
   | refine LeO.bind ?_ (fun _ => ?_)
def whetstonelaw02_BigSums.T3 : Bool × List (List Nat × List Nat) := (true, [([], []), ([0], [0]), ([], []), ([2, 1], [2]), ([], []), ([], []), ([4, 1, 3, 0, 1, 4, 5], [1, 4]), ([5, 3, 6, 0, 1, 2, 3, 4, 5, 6], [3, 5])])
def whetstonelaw02_BigSums.B3 : List Nat := [0, 1, 0, 7, 0, 0, 63, 127]
theorem whetstonelaw02_BigSums.tab3 : rtab .any (opsOf Try.f4 3) = whetstonelaw02_BigSums.T3 := by kernel_rfl
theorem whetstonelaw02_BigSums.bits3 : waitsOk whetstonelaw02_BigSums.T3.2 whetstonelaw02_BigSums.B3 = true := by kernel_rfl
def whetstonelaw02_BigSums.T4 : Bool × List (List Nat × List Nat) := (true, [([], []), ([0, 0], [0]), ([1], [1]), ([1], [1]), ([2, 3, 1, 1], [1, 2, 3]), ([1], [1]), ([1], [1]), ([5, 6, 4, 1], [1, 5, 6]), ([4, 7, 7, 1], [1, 4, 7]), ([1, 8], [1, 8]), ([9, 8], [9]), ([10], [10]), ([10], [10]), ([11, 12, 10, 10], [10, 11, 12]), ([10], [10]), ([10], [10]), ([14, 15, 13, 10], [10, 14, 15]), ([13, 16, 16, 10], [10, 13, 16]), ([10, 17], [10, 17]), ([18, 17], [18]), ([19], [19]), ([19], [19]), ([20, 21, 19, 19], [19, 20, 21]), ([19], [19]), ([19], [19]), ([23, 24, 22, 19], [19, 23, 24]), ([22, 25, 19], [19, 22, 25]), ([19, 26], [19, 26]), ([27, 25], [27]), ([28], [28]), ([29, 28, 28], [28, 29]), ([28], [28]), ([31, 30, 28], [28, 31]), ([30, 32, 28], [28, 30, 32]), ([28, 33], [28, 33]), ([34, 32], [34]), ([35], [35]), ([36, 35, 35], [35, 36]), ([35], [35]), ([38, 37, 35], [35, 38]), ([37, 39, 39, 35], [35, 37, 39]), ([35, 40], [35, 40]), ([41, 40], [41]), ([42], [42]), ([43, 42, 42], [42, 43]), ([42], [42]), ([45, 44, 42], [42, 45]), ([44, 46, 46, 42], [42, 44, 46]), ([42, 47], [42, 47]), ([48, 47], [48]), ([49], [49]), ([50, 49, 49], [49, 50]), ([49], [49]), ([51, 52, 51, 49], [49, 51, 52]), ([49, 53], [49, 53]), ([54, 53, 0, 1, 2, 3, 4, 5, 6, 7, 8, 9, 10, 11, 12, 13, 14, 15, 16, 17, 18, 19, 20, 21, 22, 23, 24, 25, 26, 27, 28, 29, 30, 31, 32, 33, 34, 35, 36, 37, 38, 39, 40, 41, 42, 43, 44, 45, 46, 47, 48, 49, 50, 51, 52, 53, 54], [54])])
def whetstonelaw02_BigSums.B4 : List Nat := [0, 1, 3, 3, 15, 3, 3, 127, 255, 511, 1023, 2047, 2047, 8191, 2047, 2047, 65535, 131071, 262143, 524287, 1048575, 1048575, 4194303, 1048575, 1048575, 33554431, 67108863, 134217727, 268435455, 536870911, 1073741823, 536870911, 4294967295, 8589934591, 17179869183, 34359738367, 68719476735, 137438953471, 68719476735, 549755813887, 1099511627775, 2199023255551, 4398046511103, 8796093022207, 17592186044415, 8796093022207, 70368744177663, 140737488355327, 281474976710655, 562949953421311, 1125899906842623, 2251799813685247, 1125899906842623, 9007199254740991, 18014398509481983, 36028797018963967]
theorem whetstonelaw02_BigSums.tab4 : rtab .any (opsOf Try.f4 4) = whetstonelaw02_BigSums.T4 := by kernel_rfl
theorem whetstonelaw02_BigSums.bits4 : waitsOk whetstonelaw02_BigSums.T4.2 whetstonelaw02_BigSums.B4 = true := by kernel_rfl
end Go.Proofs.Ytjpnaapimnoamaa.QBigSums
