-- written by wip/wprint, a program of this session
import Derived.Test.YtjpnaapimnoamaaQBigRestsx0
import Derived.Test.YtjpnaapimnoamaaQBigRestsx1
import Derived.Test.YtjpnaapimnoamaaQBigRestsx4
import Derived.Test.YtjpnaapimnoamaaQBigRestsx10
import Derived.Test.YtjpnaapimnoamaaQBigRestsx13
import Derived.Test.YtjpnaapimnoamaaQBigRestsx14
import Derived.Test.YtjpnaapimnoamaaQBigRestsx15
import Derived.Test.YtjpnaapimnoamaaQBigRestsx16
namespace Go.Proofs.Ytjpnaapimnoamaa.QBigRests
open Go.RowKit Go.Proofs.YtjpnaapimnoamaaW.PrintWords Go.Proofs.YtjpnaapimnoamaaW.PrintLast Go.Proofs.YtjpnaapimnoamaaW.PrintMore
open Go.Proofs.YtjpnaapimnoamaaW.PrintWords.Kd renaming R_alloc → qa, R_drewN → qn, R_drew → qd
open Go.Proofs.YtjpnaapimnoamaaW.PrintWords renaming below_alloc → ba, pw_below_drewN → bn, below_drew1 → bd
attribute [local go_sem] max2_int min2_int max_two min_two max_three min_three max_four min_four   -- for this text's walks alone
set_option linter.unusedVariables false
set_option linter.unusedSimpArgs false

/-! ### whetstonelaw02_BigRests: function 9 -/
mutual
def whetstonelaw02_BigRests.j0 : Nat → Bool → Bool → List Int → Bool → List Int → Option (Bool)
 | 0, _, _, _, _, _ => none
 | k + 1, x24, x676000, x676001, x677000, x677001 => if x24 = true then ((whetstonelaw02_signed.f k).bind fun t680 => (some t680)) else ((big_DivMod.f k x676000 x676001 x677000 x677001).bind fun bt681 => ((big_Sign.f k x677000 x677001).bind fun t692 => (if t692 = 0 then (if bt681.2.2.2.2 = 0 then (none) else ((big_Sign.f k bt681.1 bt681.2.1).bind fun t693 => (if t693 = 0 then ((big_Sign.f k bt681.2.2.1 bt681.2.2.2.1).bind fun t694 => (some (t694 == 0))) else (none)))) else ((big_Floor.f k x676000 x676001 x677000 x677001).bind fun bt695 => ((big_Ceil.f k x676000 x676001 x677000 x677001).bind fun bt701 => (if bt681.2.2.2.2 = 0 then (if bt695.2.2 = 0 then (if bt701.2.2 = 0 then ((big_Sign.f k bt681.2.2.1 bt681.2.2.2.1).bind fun t707 => (if t707 < 0 then (whetstonelaw02_BigRests.j1 k true bt681.2.2.1 bt681.2.2.2.1 bt695.1 bt695.2.1 bt701.1 bt701.2.1) else ((big_Abs.f k x677000 x677001).bind fun bt708 => ((big_Cmp.f k bt681.2.2.1 bt681.2.2.2.1 bt708.1 bt708.2).bind fun t712 => (if t712 ≥ 0 then (whetstonelaw02_BigRests.j1 k true bt681.2.2.1 bt681.2.2.2.1 bt695.1 bt695.2.1 bt701.1 bt701.2.1) else ((big_Mul.f k bt681.1 bt681.2.1 x677000 x677001).bind fun bt713 => ((big_Add.f k bt713.1 bt713.2 bt681.2.2.1 bt681.2.2.2.1).bind fun bt717 => ((big_Cmp.f k bt717.1 bt717.2 x676000 x676001).bind fun t721 => (whetstonelaw02_BigRests.j1 k (t721 != 0) bt681.2.2.1 bt681.2.2.2.1 bt695.1 bt695.2.1 bt701.1 bt701.2.1))))))))) else (whetstonelaw02_BigRests.j1 k true bt681.2.2.1 bt681.2.2.2.1 bt695.1 bt695.2.1 bt701.1 bt701.2.1)) else (whetstonelaw02_BigRests.j1 k true bt681.2.2.1 bt681.2.2.2.1 bt695.1 bt695.2.1 bt701.1 bt701.2.1)) else (whetstonelaw02_BigRests.j1 k true bt681.2.2.1 bt681.2.2.2.1 bt695.1 bt695.2.1 bt701.1 bt701.2.1)))))))
def whetstonelaw02_BigRests.j1 : Nat → Bool → Bool → List Int → Bool → List Int → Bool → List Int → Option (Bool)
 | 0, _, _, _, _, _, _, _ => none
 | k + 1, x91, x692000, x692001, x701000, x701001, x707000, x707001 => if x91 = true then (none) else ((big_Sub.f k x707000 x707001 x701000 x701001).bind fun bt722 => ((big_Sign.f k x692000 x692001).bind fun t727 => (if t727 = 0 then ((big_Sign.f k bt722.1 bt722.2).bind fun t728 => (if t728 = 0 then (some true) else ((big_Sign.f k x692000 x692001).bind fun t729 => (if t729 > 0 then ((big_Of.f k 1).bind fun bt730 => ((big_Cmp.f k bt722.1 bt722.2 bt730.1 bt730.2).bind fun t734 => (some (t734 == 0)))) else (none))))) else ((big_Sign.f k x692000 x692001).bind fun t735 => (if t735 > 0 then ((big_Of.f k 1).bind fun bt736 => ((big_Cmp.f k bt722.1 bt722.2 bt736.1 bt736.2).bind fun t740 => (some (t740 == 0)))) else (none))))))
end
def whetstonelaw02_BigRests.f (k : Nat) (a0_0 : Bool) (l0_1 : List Int) (a1_0 : Bool) (l1_1 : List Int) : Option (Bool) := (whetstonelaw02_signed.f k).bind fun t677 => (if t677 = true then ((whetstonelaw02_small.f a0_0 l0_1).bind fun t678 => (if t678 = true then ((whetstonelaw02_small.f a1_0 l1_1).bind fun t679 => (whetstonelaw02_BigRests.j0 k (!t679) a0_0 l0_1 a1_0 l1_1)) else (whetstonelaw02_BigRests.j0 k true a0_0 l0_1 a1_0 l1_1))) else (whetstonelaw02_BigRests.j0 k true a0_0 l0_1 a1_0 l1_1))
theorem whetstonelaw02_BigRests.mono_l : ∀ k, (∀ y0 y1 y2 y3 y4, LeO (whetstonelaw02_BigRests.j0 k y0 y1 y2 y3 y4) (whetstonelaw02_BigRests.j0 (k + 1) y0 y1 y2 y3 y4)) ∧ (∀ y0 y1 y2 y3 y4 y5 y6, LeO (whetstonelaw02_BigRests.j1 k y0 y1 y2 y3 y4 y5 y6) (whetstonelaw02_BigRests.j1 (k + 1) y0 y1 y2 y3 y4 y5 y6))
 | 0 => ⟨fun _ _ _ _ _ r h => by simp [whetstonelaw02_BigRests.j0] at h, fun _ _ _ _ _ _ _ r h => by simp [whetstonelaw02_BigRests.j1] at h⟩
 | k + 1 => by
  obtain ⟨ih0, ih1⟩ := whetstonelaw02_BigRests.mono_l k
  refine ⟨?_, ?_⟩
  ·intro y0 y1 y2 y3 y4
   unfold whetstonelaw02_BigRests.j0
   repeat' first
   | (with_reducible exact ih0 _ _ _ _ _)
   | (with_reducible exact ih1 _ _ _ _ _ _ _)
   | (with_reducible exact big_Abs.mono _ _ _)
   | (with_reducible exact big_Add.mono _ _ _ _ _)
   | (with_reducible exact big_Ceil.mono _ _ _ _ _)
   | (with_reducible exact big_Cmp.mono _ _ _ _ _)
   | (with_reducible exact big_DivMod.mono _ _ _ _ _)
   | (with_reducible exact big_Floor.mono _ _ _ _ _)
   | (with_reducible exact big_Mul.mono _ _ _ _ _)
   | (with_reducible exact big_Of.mono _ _)
   | (with_reducible exact big_Sign.mono _ _ _)
   | (with_reducible exact big_Sub.mono _ _ _ _ _)
   | (with_reducible exact whetstonelaw02_signed.mono _)
   | (with_reducible exact LeO.refl _)
   | (with_reducible exact LeO.none _)
   | (with_reducible refine LeO.ite ?_ ?_)
   | (with_reducible refine LeO.bind ?_ (fun _ => ?_))
   | exact ih0 _ _ _ _ _
   | exact ih1 _ _ _ _ _ _ _
   | exact big_Abs.mono _ _ _
   | exact big_Add.mono _ _ _ _ _
   | exact big_Ceil.mono _ _ _ _ _
   | exact big_Cmp.mono _ _ _ _ _
   | exact big_DivMod.mono _ _ _ _ _
   | exact big_Floor.mono _ _ _ _ _
   | exact big_Mul.mono _ _ _ _ _
   | exact big_Of.mono _ _
   | exact big_Sign.mono _ _ _
   | exact big_Sub.mono _ _ _ _ _
   | exact whetstonelaw02_signed.mono _
   | exact LeO.none _
   | refine LeO.ite ?_ ?_
   | refine LeO.bind ?_ (fun _ => ?_)
  ·intro y0 y1 y2 y3 y4 y5 y6
   unfold whetstonelaw02_BigRests.j1
   repeat' first
   | (with_reducible exact ih0 _ _ _ _ _)
   | (with_reducible exact ih1 _ _ _ _ _ _ _)
   | (with_reducible exact big_Abs.mono _ _ _)
   | (with_reducible exact big_Add.mono _ _ _ _ _)
   | (with_reducible exact big_Ceil.mono _ _ _ _ _)
   | (with_reducible exact big_Cmp.mono _ _ _ _ _)
   | (with_reducible exact big_DivMod.mono _ _ _ _ _)
   | (with_reducible exact big_Floor.mono _ _ _ _ _)
   | (with_reducible exact big_Mul.mono _ _ _ _ _)
   | (with_reducible exact big_Of.mono _ _)
   | (with_reducible exact big_Sign.mono _ _ _)
   | (with_reducible exact big_Sub.mono _ _ _ _ _)
   | (with_reducible exact whetstonelaw02_signed.mono _)
   | (with_reducible exact LeO.refl _)
   | (with_reducible exact LeO.none _)
   | (with_reducible refine LeO.ite ?_ ?_)
   | (with_reducible refine LeO.bind ?_ (fun _ => ?_))
   | exact ih0 _ _ _ _ _
   | exact ih1 _ _ _ _ _ _ _
   | exact big_Abs.mono _ _ _
   | exact big_Add.mono _ _ _ _ _
   | exact big_Ceil.mono _ _ _ _ _
   | exact big_Cmp.mono _ _ _ _ _
   | exact big_DivMod.mono _ _ _ _ _
   | exact big_Floor.mono _ _ _ _ _
   | exact big_Mul.mono _ _ _ _ _
   | exact big_Of.mono _ _
   | exact big_Sign.mono _ _ _
   | exact big_Sub.mono _ _ _ _ _
   | exact whetstonelaw02_signed.mono _
   | exact LeO.none _
   | refine LeO.ite ?_ ?_
   | refine LeO.bind ?_ (fun _ => ?_)
theorem whetstonelaw02_BigRests.mono : ∀ a0 a1 a2 a3 k, LeO (whetstonelaw02_BigRests.f k a0 a1 a2 a3) (whetstonelaw02_BigRests.f (k + 1) a0 a1 a2 a3) := by
 intro a0 a1 a2 a3 k
 obtain ⟨ih0, ih1⟩ := whetstonelaw02_BigRests.mono_l k
 unfold whetstonelaw02_BigRests.f
 repeat' first
   | (with_reducible exact ih0 _ _ _ _ _)
   | (with_reducible exact ih1 _ _ _ _ _ _ _)
   | (with_reducible exact big_Abs.mono _ _ _)
   | (with_reducible exact big_Add.mono _ _ _ _ _)
   | (with_reducible exact big_Ceil.mono _ _ _ _ _)
   | (with_reducible exact big_Cmp.mono _ _ _ _ _)
   | (with_reducible exact big_DivMod.mono _ _ _ _ _)
   | (with_reducible exact big_Floor.mono _ _ _ _ _)
   | (with_reducible exact big_Mul.mono _ _ _ _ _)
   | (with_reducible exact big_Of.mono _ _)
   | (with_reducible exact big_Sign.mono _ _ _)
   | (with_reducible exact big_Sub.mono _ _ _ _ _)
   | (with_reducible exact whetstonelaw02_signed.mono _)
   | (with_reducible exact LeO.refl _)
   | (with_reducible exact LeO.none _)
   | (with_reducible refine LeO.ite ?_ ?_)
   | (with_reducible refine LeO.bind ?_ (fun _ => ?_))
   | exact ih0 _ _ _ _ _
   | exact ih1 _ _ _ _ _ _ _
   | exact big_Abs.mono _ _ _
   | exact big_Add.mono _ _ _ _ _
   | exact big_Ceil.mono _ _ _ _ _
   | exact big_Cmp.mono _ _ _ _ _
   | exact big_DivMod.mono _ _ _ _ _
   | exact big_Floor.mono _ _ _ _ _
   | exact big_Mul.mono _ _ _ _ _
   | exact big_Of.mono _ _
   | exact big_Sign.mono _ _ _
   | exact big_Sub.mono _ _ _ _ _
   | exact whetstonelaw02_signed.mono _
   | exact LeO.none _
   | refine LeO.ite ?_ ?_
   | refine LeO.bind ?_ (fun _ => ?_)
def whetstonelaw02_BigRests.T8 : Bool × List (List Nat × List Nat) := (true, [([], []), ([0], [0]), ([1], [1]), ([2], [2]), ([3, 2], [2, 3]), ([2, 4], [2, 4]), ([5, 2], [5]), ([6], [6]), ([7, 6], [6, 7]), ([6, 8], [6, 8]), ([9, 6], [9]), ([10], [10]), ([11, 10, 10], [10, 11]), ([12, 10], [10, 12]), ([10, 13], [10, 13]), ([14, 12], [14]), ([15], [15]), ([15], [15]), ([17, 15, 15], [15, 17]), ([16, 18, 18, 15], [15, 16, 18]), ([19, 15], [15, 19]), ([15, 20], [15, 20]), ([21, 19], [21]), ([22], [22]), ([22], [22]), ([23, 24, 22, 22], [22, 23, 24]), ([22], [22]), ([25, 26, 25, 22], [22, 25, 26]), ([22], [22]), ([27, 28, 27, 22], [22, 27, 28]), ([29, 22], [22, 29]), ([22, 30], [22, 30])])
def whetstonelaw02_BigRests.B8 : List Nat := [0, 1, 3, 7, 15, 31, 63, 127, 255, 511, 1023, 2047, 4095, 8191, 16383, 32767, 65535, 65535, 196607, 524287, 1048575, 2097151, 4194303, 8388607, 8388607, 33554431, 8388607, 134217727, 8388607, 536870911, 1073741823, 2147483647]
theorem whetstonelaw02_BigRests.tab8 : rtab .any (opsOf Try.f9 8) = whetstonelaw02_BigRests.T8 := by kernel_rfl
theorem whetstonelaw02_BigRests.bits8 : waitsOk whetstonelaw02_BigRests.T8.2 whetstonelaw02_BigRests.B8 = true := by kernel_rfl
def whetstonelaw02_BigRests.T11 : Bool × List (List Nat × List Nat) := (true, [([], []), ([0], [0]), ([1], [1]), ([2, 1], [2]), ([3], [3]), ([4, 3, 3], [3, 4]), ([5, 3], [3, 5]), ([3, 6], [3, 6]), ([7, 5], [7]), ([8], [8]), ([9, 8, 8], [8, 9]), ([10, 8], [8, 10]), ([11, 10, 8], [8, 11]), ([12], [12]), ([12, 12], [12]), ([13, 14, 14, 12], [12, 13, 14]), ([15, 12], [12, 15]), ([12, 16, 8], [8, 12, 16]), ([8, 17], [8, 17]), ([18, 15, 0, 1, 2, 3, 4, 5, 6, 7, 8, 9, 10, 11, 12, 13, 14, 15, 16, 17, 18], [18])])
def whetstonelaw02_BigRests.B11 : List Nat := [0, 1, 3, 7, 15, 31, 63, 127, 255, 511, 1023, 2047, 4095, 8191, 8191, 32767, 65535, 131071, 262143, 524287]
theorem whetstonelaw02_BigRests.tab11 : rtab .any (opsOf Try.f9 11) = whetstonelaw02_BigRests.T11 := by kernel_rfl
theorem whetstonelaw02_BigRests.bits11 : waitsOk whetstonelaw02_BigRests.T11.2 whetstonelaw02_BigRests.B11 = true := by kernel_rfl
end Go.Proofs.Ytjpnaapimnoamaa.QBigRests
